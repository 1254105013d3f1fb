/- patch.Decode of bytes that begin with no list of four numbers: ErrForm. Conditions: sizes. -/
import Derived.Test.YtjeecfjeooehhaaGreatDoorRwK
import Derived.Test.YtjeecfjeooehhaaGreatDoorRwB
set_option linter.unusedSimpArgs false
set_option linter.unusedVariables false
namespace Go.Proofs.YtjeecfjeooehhaaGreatDoor
open Go.RowKit
attribute [local go_sem ↓] wp_at_zero wp_at_succ
/-- The cells of a patch. -/
def patC (s q d : Int) (nA : Option Addr) (nn nc : Nat) (cl : Int) (oA : Option Addr) (on oc : Nat) (sl : ByteArray) : List Value := [.int .i64 s, .int .i64 q, .int .i64 d, .slice nA nn nc, .int .i64 cl, .slice oA on oc, .string sl]
def P0 : List Value := patC 0 0 0 none 0 0 0 none 0 0 ⟨#[]⟩
theorem info_pat : (Tryz.prog.info? 42).map (·.size) = some 7 := by kernel_rfl
theorem patC_one (s q d : Int) (nA : Option Addr) (nn nc : Nat) (cl : Int) (oA : Option Addr) (on oc : Nat) (sl : ByteArray) : ∀ v ∈ patC s q d nA nn nc cl oA on oc sl, v.oneCell' = true := fun v hv => by
  unfold patC at hv
  simp only [List.mem_cons, List.not_mem_nil, or_false] at hv
  rcases hv with rfl | rfl | rfl | rfl | rfl | rfl | rfl <;> rfl
theorem patC_no8 (s q d : Int) (nA : Option Addr) (nn nc : Nat) (cl : Int) (oA : Option Addr) (on oc : Nat) (sl : ByteArray) : ∀ (o : Nat) (v : Int), (patC s q d nA nn nc cl oA on oc sl)[o]? ≠ some (.int .u8 v) := fun o v h => by
  have h := List.mem_of_getElem? h
  unfold patC at h
  simp at h
theorem zero_pat : ∀ W, (zeroValue 42).run Tryz.prog W = .ok (.agg P0.toArray) W := fun W => by kernel_rfl
theorem build_pat (s q d cl : Int) : Tryz.prog.built 42 [(0, .int .i64 s), (1, .int .i64 q), (2, .int .i64 d), (4, .int .i64 cl)] = some (patC s q d none 0 0 cl none 0 0 ⟨#[]⟩).toArray := by kernel_rfl
theorem build_pat0 : Tryz.prog.built 42 [] = some P0.toArray := by kernel_rfl
theorem own_cell0 {w : World} {base : Nat} {n c : Nat} {A : Option Addr} {L : List Int} (h : w.ownsRow base 3 1 (.slice A n c) n (L.map (Value.int .i64))) (hn : 0 < n) : ∃ g, A = some ⟨g, 0, none⟩ ∧ base ≤ g ∧ g < w.heap.size ∧ ∀ j x, L[j]? = some x → w.cell? ⟨g, j, none⟩ = some (.int .i64 x) := by
  obtain ⟨g, hA, h1, h2, h3⟩ := own_at h hn
  exact ⟨g, hA, h1, h2, fun j x hx => h3 j _ (by rw [List.getElem?_map, hx]; rfl)⟩
/-- A block that is no row of bytes set: the reader's bytes stay. -/
theorem rdr_off {w w' : World} {g g2 : Nat} {l : List Int} {A : Option Addr} {n c : Nat} {bad : Bool} {cs : List Value} (h : Rdr w g l A n c bad) (hk : Kept (fun b => b = g2) w w') (hb : Blk w g2 42 cs) (hne : g2 ≠ g) (hc : ∀ (o : Nat) (v : Int), cs[o]? ≠ some (.int .u8 v)) : Rdr w' g l A n c bad := by
  refine ⟨hk.blk h.blk (fun e => hne e.symm), ⟨h.row.1, fun hn => ?_⟩, h.byt, h.nc, h.cap, h.few⟩
  obtain ⟨b, o, hA, hbl, hcc⟩ := h.row.2 hn
  refine ⟨b, o, hA, Nat.lt_of_lt_of_le hbl hk.size, fun j u hu => ?_⟩
  refine (hk.cell (p := ⟨b, o + j, none⟩) hbl (fun e => ?_)).trans (hcc j u hu)
  have e : b = g2 := e
  have h1 := hcc j u hu
  rw [e, hb.cell] at h1
  unfold u8s at hu
  rw [List.getElem?_map] at hu
  cases hj : l[j]? with
  | none => rw [hj] at hu; cases hu
  | some x =>
    rw [hj] at hu
    rw [← Option.some.inj hu] at h1
    exact hc _ _ h1
theorem rdr_def {w w' : World} {g g2 : Nat} {l : List Int} {A : Option Addr} {n c : Nat} {bad : Bool} (h : Rdr w g l A n c bad) (hk : Kept (fun b => b = g2) w w') (hb : w.heap[g2]? = some (.deferred (some []))) (hne : g2 ≠ g) : Rdr w' g l A n c bad := by
  refine ⟨hk.blk h.blk (fun e => hne e.symm), ⟨h.row.1, fun hn => ?_⟩, h.byt, h.nc, h.cap, h.few⟩
  obtain ⟨b, o, hA, hbl, hcc⟩ := h.row.2 hn
  refine ⟨b, o, hA, Nat.lt_of_lt_of_le hbl hk.size, fun j u hu => ?_⟩
  refine (hk.cell (p := ⟨b, o + j, none⟩) hbl (fun e => ?_)).trans (hcc j u hu)
  have e : b = g2 := e
  have h1 := hcc j u hu
  rw [e] at h1
  simp [World.cell?, hb] at h1
set_option maxHeartbeats 8000000 in
set_option maxRecDepth 100000 in
theorem patch_bad (l : List Int) (A : Option Addr) (n c g : Nat) (w : World) (h : Rdr w g l A n c false) (hbad : intsB l false 4 1 = true) :
    Calls Tryz.prog 36 #[.pointer (some ⟨g, 0, none⟩)] w fun r w' => (∃ cs : List Value, r = .returned (.agg cs.toArray) ∧ cs.length = 7 ∧ ∀ v ∈ cs, v.oneCell' = true) ∧ (∃ l2 A2 n2 c2, Rdr w' g l2 A2 n2 c2 true) ∧ Kept (fun b => b = g) w w' := by
  have H0 := Lib.hid h
  have HIA : Hid (∀ W, Ext w W → Calls Tryz.prog 77 #[.pointer (some ⟨g, 0, none⟩), .int .i64 4, .int .i64 1] W fun r w' => (∃ A1 c1, r = .returned (.slice A1 4 c1) ∧ w'.ownsRow W.heap.size 3 1 (.slice A1 4 c1) 4 (([0, 0, 0, 0] : List Int).map (Value.int .i64))) ∧ (∃ A2 n2 c2, Rdr w' g (rest1 l) A2 n2 c2 true) ∧ Kept (fun b => b = g) W w') := Lib.hid (fun W hW => by
    have h1 := pints_any l A n c g 4 1 false W (h.ext hW) (by decide) (by decide) (by decide)
    have h2 : intsL l false 4 1 = [0, 0, 0, 0] := by unfold intsL; rw [hbad]; rfl
    rw [h2, hbad] at h1
    exact h1)
  have HIB : Hid (∀ (l : List Int) (A : Option Addr) (n c : Nat) (W : World), Rdr W g l A n c true → Calls Tryz.prog 77 #[.pointer (some ⟨g, 0, none⟩), .int .i64 0, .int .i64 2] W fun r w' => (∃ A1 c1, r = .returned (.slice A1 0 c1) ∧ w'.ownsRow W.heap.size 3 1 (.slice A1 0 c1) 0 []) ∧ (∃ A2 n2 c2, Rdr w' g (rest1 l) A2 n2 c2 true) ∧ Kept (fun b => b = g) W w') := Lib.hid (fun l A n c W hr => by
    have h1 := pints_any l A n c g 0 2 true W hr (by decide) (by decide) (by decide)
    have h2 : intsB l true 0 2 = true := rfl
    have h3 : intsL l true 0 2 = [] := by unfold intsL; rw [h2]; rfl
    rw [h3, h2] at h1
    exact h1)
  have HCH : Hid (∀ (B : Option Addr) (dd : Nat) (W : World), Calls Tryz.prog 72 #[.slice B 0 dd, .int .i64 2] W fun e w' => e = .returned (.func (.func 118) #[] #[.pointer (some ⟨W.heap.size, 0, none⟩), .pointer (some ⟨W.heap.size + 1, 0, none⟩)]) ∧ w' = (W.alloc (.cells #[.slice B 0 dd] 22)).alloc (.cells #[.int .i64 2] 3)) := Lib.hid (fun B dd W => chunk_any B 0 dd 2 (by decide) W)
  have hgl := h.blk.lt
  have HGL := Lib.hid hgl
  have zz := zero_pat
  clear h hbad
  refine callsIn_wide.1 (callsIn_of_wp_marks (n := 8) Tryz.func36 rfl trivial (wpIn_wide.2 ?_) rfl)
  simp only [Tryz.ntmps36, List.size_toArray, List.length_cons, List.length_nil, Nat.reduceAdd, Nat.reduceSub, Array.replicate_succ, Array.replicate_zero, List.push_toArray, List.append_toArray, List.nil_append, List.cons_append]
  go_upto_region 1 with fail
  obtain ⟨w1, hw1⟩ : ∃ x, x = w.alloc (.cells P0.toArray 42) := ⟨_, rfl⟩
  change Code.wp _ _ _ _ (w.alloc (.cells P0.toArray 42))
  rw [← hw1]
  have E1 : Hid (Ext w w1) := Lib.hid (by rw [hw1]; exact (Ext.refl w).alloc _)
  have BZ1 : Hid (Blk w1 w.heap.size 42 P0) := Lib.hid (by rw [hw1]; exact Blk.fresh' _ _ _ _ _ rfl rfl)
  clear hw1
  go_upto_region 2 with (go_at_call 77; (with_reducible refine (HIA.out w1 E1.out).mono ?_); rintro e w2 ⟨⟨A1, c1, rfl, ho1⟩, ⟨A2, n2, c2, hr2⟩, hk2⟩; have HO1 := Lib.hid ho1; have R2 := Lib.hid hr2; have K2 := Lib.hid hk2; clear ho1 hr2 hk2)
  obtain ⟨g1, rfl, hg1a, hg1b, hg1c⟩ := own_cell0 HO1.out (by decide)
  have BZ2 : Hid (Blk w2 w.heap.size 42 P0) := Lib.hid (K2.out.blk BZ1.out (by omega))
  have HCC : Hid (∀ W, Ext w2 W → W.cell? ⟨g1, 0, none⟩ = some (.int .i64 0) ∧ W.cell? ⟨g1, 1, none⟩ = some (.int .i64 0) ∧ W.cell? ⟨g1, 2, none⟩ = some (.int .i64 0) ∧ W.cell? ⟨g1, 3, none⟩ = some (.int .i64 0)) := Lib.hid (fun W hW => ⟨(hW.cell (p := ⟨g1, 0, none⟩) hg1b).trans (hg1c 0 0 rfl), (hW.cell (p := ⟨g1, 1, none⟩) hg1b).trans (hg1c 1 0 rfl), (hW.cell (p := ⟨g1, 2, none⟩) hg1b).trans (hg1c 2 0 rfl), (hW.cell (p := ⟨g1, 3, none⟩) hg1b).trans (hg1c 3 0 rfl)⟩)
  have K02 : Hid (Kept (fun b => b = g) w w2) := Lib.hid ((Kept.of_ext E1.out).trans K2.out)
  clear HO1 hg1a hg1b hg1c BZ1 E1 K2
  refine wp_region_flowF 14 ?FW1 (fun us => ?_) (by kernel_rfl) (by kernel_rfl) (fun a b => Ext a b) Ext.refl (fun h1 h2 => h1.next h2) (fun i v W => match i with
    | 0 => v = .slice (some ⟨g1, 0, none⟩) 4 c1
    | 1 => v = .pointer (some ⟨g1, 0, none⟩)
    | 2 => v = .int .i64 0
    | 3 => v = .slice (some ⟨g1, 0, none⟩) 4 c1
    | 4 => v = .pointer (some ⟨g1, 1, none⟩)
    | 5 => v = .int .i64 0
    | 6 => v = .slice (some ⟨g1, 0, none⟩) 4 c1
    | 7 => v = .pointer (some ⟨g1, 2, none⟩)
    | 8 => v = .int .i64 0
    | 9 => v = .slice (some ⟨g1, 0, none⟩) 4 c1
    | 10 => v = .pointer (some ⟨g1, 3, none⟩)
    | 11 => v = .int .i64 0
    | 12 => v = .agg (patC 0 0 0 none 0 0 0 none 0 0 ⟨#[]⟩).toArray
    | 13 => ∃ g : Nat, v = .pointer (some ⟨g, 0, none⟩) ∧ w2.heap.size ≤ g ∧ Blk W g 42 P0
    | _ => True) ?_ ?_
  case refine_1 =>
    simp only [List.take_succ_cons, List.take_zero, flowAct, Nat.zero_add, Nat.reduceAdd, Act.put, List.setIfInBounds_toArray, List.set_cons_succ, List.set_cons_zero]
    rfl
  · simp only [List.take_succ_cons, List.take_zero, flowStepsF]
    refine ⟨?_, ?_, ?_, ?_, ?_, ?_, ?_, ?_, ?_, ?_, ?_, ?_, ?_, ?_, trivial⟩
    · intro us W K hE hd hK
      dsimp only at hK ⊢
      have HK := Lib.hid hK; have HE := Lib.hid hE
      clear hK hd hE
      go_wp2_with fail
      exact K_at (HK.out (.slice (some ⟨g1, 0, none⟩) 4 c1) W (fun _ _ => rfl) (Ext.refl W)) (by kernel_rfl)
    · intro us W K hE hd hK
      have d0 := hd 0 (by kernel_rfl)
      dsimp only at hK ⊢
      rw [d0] at hK ⊢
      have HK := Lib.hid hK; have HE := Lib.hid hE
      clear hK hd hE d0
      go_wp2_with fail
      exact K_at (HK.out (.pointer (some ⟨g1, 0, none⟩)) W (fun _ _ => rfl) (Ext.refl W)) (by kernel_rfl)
    · intro us W K hE hd hK
      have d1 := hd 1 (by kernel_rfl)
      obtain ⟨cc0, cc1, cc2, cc3⟩ := HCC.out W (sg_undrew hE)
      dsimp only at hK ⊢
      rw [d1] at hK ⊢
      have HK := Lib.hid hK; have HE := Lib.hid hE
      clear hK hd hE d1
      go_wp2_with fail
      exact K_at (HK.out (.int .i64 0) W (fun _ _ => rfl) (Ext.refl W)) (by kernel_rfl)
    · intro us W K hE hd hK
      dsimp only at hK ⊢
      have HK := Lib.hid hK; have HE := Lib.hid hE
      clear hK hd hE
      go_wp2_with fail
      exact K_at (HK.out (.slice (some ⟨g1, 0, none⟩) 4 c1) W (fun _ _ => rfl) (Ext.refl W)) (by kernel_rfl)
    · intro us W K hE hd hK
      have d3 := hd 3 (by kernel_rfl)
      dsimp only at hK ⊢
      rw [d3] at hK ⊢
      have HK := Lib.hid hK; have HE := Lib.hid hE
      clear hK hd hE d3
      go_wp2_with fail
      exact K_at (HK.out (.pointer (some ⟨g1, 1, none⟩)) W (fun _ _ => rfl) (Ext.refl W)) (by kernel_rfl)
    · intro us W K hE hd hK
      have d4 := hd 4 (by kernel_rfl)
      obtain ⟨cc0, cc1, cc2, cc3⟩ := HCC.out W (sg_undrew hE)
      dsimp only at hK ⊢
      rw [d4] at hK ⊢
      have HK := Lib.hid hK; have HE := Lib.hid hE
      clear hK hd hE d4
      go_wp2_with fail
      exact K_at (HK.out (.int .i64 0) W (fun _ _ => rfl) (Ext.refl W)) (by kernel_rfl)
    · intro us W K hE hd hK
      dsimp only at hK ⊢
      have HK := Lib.hid hK; have HE := Lib.hid hE
      clear hK hd hE
      go_wp2_with fail
      exact K_at (HK.out (.slice (some ⟨g1, 0, none⟩) 4 c1) W (fun _ _ => rfl) (Ext.refl W)) (by kernel_rfl)
    · intro us W K hE hd hK
      have d6 := hd 6 (by kernel_rfl)
      dsimp only at hK ⊢
      rw [d6] at hK ⊢
      have HK := Lib.hid hK; have HE := Lib.hid hE
      clear hK hd hE d6
      go_wp2_with fail
      exact K_at (HK.out (.pointer (some ⟨g1, 2, none⟩)) W (fun _ _ => rfl) (Ext.refl W)) (by kernel_rfl)
    · intro us W K hE hd hK
      have d7 := hd 7 (by kernel_rfl)
      obtain ⟨cc0, cc1, cc2, cc3⟩ := HCC.out W (sg_undrew hE)
      dsimp only at hK ⊢
      rw [d7] at hK ⊢
      have HK := Lib.hid hK; have HE := Lib.hid hE
      clear hK hd hE d7
      go_wp2_with fail
      exact K_at (HK.out (.int .i64 0) W (fun _ _ => rfl) (Ext.refl W)) (by kernel_rfl)
    · intro us W K hE hd hK
      dsimp only at hK ⊢
      have HK := Lib.hid hK; have HE := Lib.hid hE
      clear hK hd hE
      go_wp2_with fail
      exact K_at (HK.out (.slice (some ⟨g1, 0, none⟩) 4 c1) W (fun _ _ => rfl) (Ext.refl W)) (by kernel_rfl)
    · intro us W K hE hd hK
      have d9 := hd 9 (by kernel_rfl)
      dsimp only at hK ⊢
      rw [d9] at hK ⊢
      have HK := Lib.hid hK; have HE := Lib.hid hE
      clear hK hd hE d9
      go_wp2_with fail
      exact K_at (HK.out (.pointer (some ⟨g1, 3, none⟩)) W (fun _ _ => rfl) (Ext.refl W)) (by kernel_rfl)
    · intro us W K hE hd hK
      have d10 := hd 10 (by kernel_rfl)
      obtain ⟨cc0, cc1, cc2, cc3⟩ := HCC.out W (sg_undrew hE)
      dsimp only at hK ⊢
      rw [d10] at hK ⊢
      have HK := Lib.hid hK; have HE := Lib.hid hE
      clear hK hd hE d10
      go_wp2_with fail
      exact K_at (HK.out (.int .i64 0) W (fun _ _ => rfl) (Ext.refl W)) (by kernel_rfl)
    · intro us W K hE hd hK
      have d2 := hd 2 (by kernel_rfl)
      have d5 := hd 5 (by kernel_rfl)
      have d8 := hd 8 (by kernel_rfl)
      have d11 := hd 11 (by kernel_rfl)
      dsimp only at hK ⊢
      rw [d2, d5, d8, d11] at hK ⊢
      have HK := Lib.hid hK; have HE := Lib.hid hE
      clear hK hd hE d2 d5 d8 d11
      go_wp2_with (go_loud (refine wpList_build_eq (by rfl) 42 _ rfl _ (by kernel_rfl) _ (build_pat 0 0 0 0) ?_))
      exact K_at (HK.out (.agg (patC 0 0 0 none 0 0 0 none 0 0 ⟨#[]⟩).toArray) W (fun _ _ => rfl) (Ext.refl W)) (by kernel_rfl)
    · intro us W K hE hd hK
      have HSW := Lib.hid (sg_undrew hE).size
      dsimp only at hK ⊢
      have HK := Lib.hid hK; have HE := Lib.hid hE
      clear hK hd hE
      go_wp2_with fail
      exact K_at (HK.out (.pointer (some ⟨W.heap.size, 0, none⟩)) (W.alloc (.cells P0.toArray 42)) (fun W2 hW2 => ⟨W.heap.size, rfl, HSW.out, (Blk.fresh' W 42 P0 _ _ rfl rfl).ext hW2⟩) ((Ext.refl W).alloc _)) (by kernel_rfl)
  · intro us W hE hd
    try dsimp only
    have d12 := hd 12 (by decide)
    obtain ⟨g4, d13, hg4, hb4⟩ := hd 13 (by decide)
    simp only [List.drop_succ_cons, List.drop_zero]
    rw [d12, d13]
    have EW := Lib.hid (sg_undrew hE)
    have B4 := Lib.hid hb4
    have HG4 := Lib.hid hg4
    clear hd hE d12 d13 hb4 hg4
    go_upto_region 3 with (refine wpList_store_blk rfl 42 (.tmp 4) (.tmp 24) rfl g4 (patC 0 0 0 none 0 0 0 none 0 0 ⟨#[]⟩) (by kernel_rfl) (by kernel_rfl) B4.out (info_pat.trans rfl) rfl (patC_one _ _ _ _ _ _ _ _ _ _ _) ?_; intro w3 hw3 hb3; have B3 := Lib.hid hb3; have E23 : Hid (Ext w2 w3) := Lib.hid (by rw [hw3.out]; exact EW.out.setRow HG4.out _))
    have R3 := Lib.hid (R2.out.ext E23.out)
    have BZ3 := Lib.hid (BZ2.out.ext E23.out)
    have K03 : Hid (Kept (fun b => b = g) w w3) := Lib.hid (K02.out.trans (Kept.of_ext E23.out))
    have HGB : Hid (w.heap.size < w2.heap.size) := Lib.hid BZ2.out.lt
    clear R2 BZ2 K02 EW B4 HCC
    go_upto_region 4 with (first
      | (go_at_call 77; (with_reducible refine (HIB.out _ _ _ _ w3 R3.out).mono ?_); rintro e w4 ⟨⟨A5, c5, rfl, ho5⟩, ⟨A6, n6, c6, hr4⟩, hk4⟩; have HO5 := Lib.hid ho5; have R4 := Lib.hid hr4; have K4 := Lib.hid hk4; clear ho5 hr4 hk4)
      | (go_at_call 72; (with_reducible refine (HCH.out _ _ w4).mono ?_); rintro e w9 ⟨rfl, rfl⟩))
    obtain ⟨w6, hw6⟩ : ∃ x, x = ((w4.alloc (.cells #[.slice A5 0 c5] 22)).alloc (.cells #[.int .i64 2] 3)) := ⟨_, rfl⟩
    change Code.wp _ _ _ _ ((w4.alloc (.cells #[.slice A5 0 c5] 22)).alloc (.cells #[.int .i64 2] 3))
    rw [← hw6]
    have E46 : Hid (Ext w4 w6) := Lib.hid (by rw [hw6]; exact ((Ext.refl w4).alloc _).alloc _)
    have HSZ : Hid (w6.heap.size = w4.heap.size + 2) := Lib.hid (by rw [hw6]; simp)
    have HBs : w6.cell? ⟨w4.heap.size, 0, none⟩ = some (.slice A5 0 c5) := by rw [hw6]; exact ((Blk.fresh' w4 22 [.slice A5 0 c5] _ _ rfl rfl).alloc _).cell 0
    have HBn : w6.cell? ⟨w4.heap.size + 1, 0, none⟩ = some (.int .i64 2) := by rw [hw6]; exact (Blk.fresh' _ 3 [.int .i64 2] _ _ rfl (by simp)).cell 0
    have R6 := Lib.hid (R4.out.ext E46.out)
    have HG26 : Hid (w2.heap.size ≤ w6.heap.size) := Lib.hid (Nat.le_trans E23.out.size (Nat.le_trans K4.out.size E46.out.size))
    have HN4 : Hid (g4 ≠ g) := Lib.hid (by have h1 := HG4.out; have h2 := HGL.out; have h3 := HGB.out; omega)
    have HNZ : Hid (w.heap.size ≠ g) := Lib.hid (by have h2 := HGL.out; omega)
    have BZ6 : Hid (Blk w6 w.heap.size 42 P0) := Lib.hid ((K4.out.blk BZ3.out HNZ.out).ext E46.out)
    have B6 : Hid (Blk w6 g4 42 (patC 0 0 0 none 0 0 0 none 0 0 ⟨#[]⟩)) := Lib.hid ((K4.out.blk B3.out HN4.out).ext E46.out)
    have K06 : Hid (Kept (fun b => b = g) w w6) := Lib.hid ((K03.out.trans K4.out).trans (Kept.of_ext E46.out))
    have HG44 : Hid (g4 < w6.heap.size) := Lib.hid B6.out.lt
    have hcp := (slice_cap HO5.out).2
    unfold maxLen at hcp
    have hs6 := HSZ.out
    clear hw6 HIA HIB HCH R3 R4 BZ3 B3 K03 K4 E46 HO5 E23
    refine (wpIn_wide (n := 6)).1 ?_
    refine wpIn_rangeFunc_ownF (α := Bel 0) rfl (by decide) (gf := 118) (lb := #[.pointer (some ⟨w4.heap.size, 0, none⟩), .pointer (some ⟨w4.heap.size + 1, 0, none⟩)]) rfl trivial (enters_of Tryz.func118 (by kernel_rfl) rfl)
      (chunk1_stops w4.heap.size (w4.heap.size + 1) 0 c5 2 0 A5 (by decide) rfl (Nat.zero_le _) (by omega) w6 (by omega) (by omega) HBs HBn 0 0 (fun h => absurd h (Nat.lt_irrefl _))) (fun h k => KpB.trans h k) (fun W l ob ob' hl _ _ _ => ⟨World.cell?_of_block (World.putObj_heap_other (by show w4.heap.size ≠ l; omega)), World.cell?_of_block (World.putObj_heap_other (by show w4.heap.size + 1 ≠ l; omega))⟩) (Below.refl _ _) (fun _ => rfl)
      (fun _ W => Ext w6 W) (fun _ _ _ => False) ?hI (fun _ _ _ _ _ hs _ _ => hs) (Ext.refl _) (fun x => absurd x.2 (Nat.not_lt_zero _)) ?assign ?body ?done ?stop
    case hI =>
      rintro pre W W' row h hg hr
      exact (Kept.of_ext (F := fun _ => False) h).next (Kept.of_grown (F := fun b => row = some b) hg (fun b hb _ => hb)) (fun b hb he => by have := (hr b he).1; omega) |>.ext (fun _ h => h.elim)
    case assign =>
      intro l x W K hK
      exact absurd x.2 (Nat.not_lt_zero _)
    case body =>
      intro l0 pre x W0 _ hlt
      exact absurd hlt (Nat.not_lt_zero _)
    case stop =>
      rintro D cd pre W _ _ h _
      exact h.elim
    case done =>
      rintro D ys W hD rfl hE hKD
      have EW := Lib.hid hE; have HKD := Lib.hid hKD; have HD := Lib.hid hD
      have RW := Lib.hid (R6.out.ext hE)
      have BZW := Lib.hid (BZ6.out.ext hE)
      have BPW := Lib.hid (B6.out.ext hE)
      have KW : Hid (Kept (fun b => b = g) w W) := Lib.hid (K06.out.trans (Kept.of_ext hE))
      clear hE hKD hD HBs HBn R6 BZ6 B6 K06 hcp hs6
      obtain ⟨lx, hlx⟩ : ∃ l2, l2 = rest1 (rest1 l) := ⟨_, rfl⟩
      have hgi := gint_any _ _ _ _ W RW.out.row RW.out.byt RW.out.nc RW.out.cap
      obtain ⟨x2, u2, e2, hx2, hu2⟩ : ∃ (x : Int) (u : Nat) (e : Int), getI (rest1 (rest1 l)) = (x, (u : Int), e) ∧ u ≤ n6 := by
        have hl2 : (rest1 (rest1 l)).length = n6 := by have := RW.out.row.1; simpa [u8s] using this
        rcases getI_cases' _ RW.out.byt with ⟨_, h1, h2⟩ | ⟨x, u, h1, h2, _⟩
        · exact ⟨0, 0, (getI (rest1 (rest1 l))).2.2, by show ((getI (rest1 (rest1 l))).1, (getI (rest1 (rest1 l))).2.1, (getI (rest1 (rest1 l))).2.2) = _; rw [h1, h2]; rfl, Nat.zero_le _⟩
        · exact ⟨x, u, 0, h1, by omega⟩
      unfold tup3 at hgi
      rw [hx2] at hgi
      have HGI := Lib.hid hgi
      have HTK := Lib.hid (took_any _ _ _ _ g u2 true e2 W RW.out hu2)
      have c0 := RW.out.blk.cell 0
      have HGD : Hid (g ≠ D) := Lib.hid (by have h1 := HD.out; have h2 := HGL.out; have h3 := HGB.out; have h4 := HG26.out; omega)
      clear hlx hgi hx2 hu2
      go_upto_region 8 with (first
        | (go_at_call 54; (with_reducible refine HGI.out.mono ?_); rintro e7 w7 ⟨rfl, rfl⟩)
        | (go_at_call 78; (with_reducible refine HTK.out.mono ?_); rintro e8 w8 ⟨rfl, hr8, hk8⟩; have R8 := Lib.hid hr8; have K8 := Lib.hid hk8; clear hr8 hk8))
      have c81 := R8.out.blk.cell 1
      have f81 := R8.out.blk.frozen 1
      go_upto_region 9 with fail
      obtain ⟨w9, hw9⟩ : ∃ x, x = w8.setCell ⟨g, 1, none⟩ (.bool true) := ⟨_, rfl⟩
      change Code.wp _ _ _ _ (w8.setCell ⟨g, 1, none⟩ (.bool true))
      rw [← hw9]
      have K89 : Hid (Kept (fun b => b = g) w8 w9) := Lib.hid (by rw [hw9]; exact Kept.setCell (F := fun b => b = g) (p := ⟨g, 1, none⟩) w8 rfl _)
      have R9 : Hid (Rdr w9 g ((rest1 (rest1 l)).drop u2) (restA A6 c6 u2) (n6 - u2) (c6 - u2) true) := Lib.hid (by
        have hb : Blk w9 g 89 [.slice (restA A6 c6 u2) (n6 - u2) (c6 - u2), .bool true] := by rw [hw9]; exact R8.out.blk.set 1 _
        exact ⟨hb, R8.out.keep K89.out, R8.out.byt, R8.out.nc, R8.out.cap, R8.out.few⟩)
      have KW9 : Hid (Kept (fun b => b = g) W w9) := Lib.hid (K8.out.trans K89.out)
      have HTX := Lib.hid (text_any _ _ _ _ g true w9 R9.out)
      have c91 := R9.out.blk.cell 1
      clear hw9 c0 c81 f81 R8 K8 K89 HGI HTK
      go_wp2_with fail
      go_loopw [9] (fun s9 wr => s9 = .int .i64 0 ∧ w9 = wr) (fun _ _ => 0)
      case atStart => exact ⟨rfl, rfl⟩
      case round =>
        obtain ⟨rfl, rfl⟩ := hrel
        have HEND : Hid (∀ w10, Kept (fun b => b = g) w9 w10 → Blk w10 w.heap.size 42 P0 ∧ Blk w10 g4 42 (patC 0 0 0 none 0 0 0 none 0 0 ⟨#[]⟩) ∧ w10.heap[D]? = some (.deferred (some []))) := Lib.hid (fun w10 hk => by
          have hk2 := KW9.out.trans hk
          refine ⟨hk2.blk BZW.out HNZ.out, hk2.blk BPW.out HN4.out, ?_⟩
          have hDl : D < W.heap.size := (Array.getElem?_eq_some_iff.1 HKD.out).1
          exact (hk2.block D hDl (fun e => HGD.out e.symm)).trans HKD.out)
        by_cases h0 : (0 : Int) < x2
        · have h0' : decide ((0 : Int) < x2) = true := decide_eq_true h0
          go_upto_region 14 with (go_at_call 80; (with_reducible refine HTX.out.mono ?_); rintro e10 w10 ⟨rfl, ⟨A11, n11, c11, hr11⟩, hk11⟩; have R10 := Lib.hid hr11; have K10 := Lib.hid hk11; obtain ⟨hz10, hp10, hd10⟩ := HEND.out w10 hk11; have BZ10 := Lib.hid hz10; have BP10 := Lib.hid hp10; have HD10 := Lib.hid hd10; have c106 := hp10.cell 6; have f106 := hp10.frozen 6; clear hr11 hk11 hz10 hp10 hd10)
          obtain ⟨w11, hw11⟩ : ∃ x, x = w10.setCell ⟨g4, 6, none⟩ (.string (decS (List.drop u2 (rest1 (rest1 l)))).1) := ⟨_, rfl⟩
          change Code.wp _ _ _ _ (w10.setCell ⟨g4, 6, none⟩ (.string (decS (List.drop u2 (rest1 (rest1 l)))).1))
          rw [← hw11]
          obtain ⟨sl, hsl⟩ : ∃ s, s = (decS (List.drop u2 (rest1 (rest1 l)))).1 := ⟨_, rfl⟩
          have K1011 : Hid (Kept (fun b => b = g4) w10 w11) := Lib.hid (by rw [hw11]; exact Kept.setCell (F := fun b => b = g4) (p := ⟨g4, 6, none⟩) w10 rfl _)
          have BP11 : Hid (Blk w11 g4 42 (patC 0 0 0 none 0 0 0 none 0 0 sl)) := Lib.hid (by rw [hw11, ← hsl]; exact BP10.out.set 6 _)
          have HZ4 : Hid (w.heap.size ≠ g4) := Lib.hid (by have h1 := HG4.out; have h3 := HGB.out; omega)
          have BZ11 : Hid (Blk w11 w.heap.size 42 P0) := Lib.hid (K1011.out.blk BZ10.out HZ4.out)
          have R11 : Hid (Rdr w11 g (textR (List.drop u2 (rest1 (rest1 l)))) A11 n11 c11 (textB (List.drop u2 (rest1 (rest1 l))) true)) := Lib.hid (rdr_off R10.out K1011.out BP10.out HN4.out (patC_no8 _ _ _ _ _ _ _ _ _ _ _))
          clear hw11 hsl c106 f106 c91
          go_wp2_with (first
            | (refine wpList_load_blk rfl 42 (.tmp 4) rfl g4 (by kernel_rfl) BP11.out Tryz.underlying42 rfl (info_pat.trans rfl) ?_)
            | (refine wpList_store_blk rfl 42 (.tmp 2) (.tmp 91) rfl w.heap.size (patC 0 0 0 none 0 0 0 none 0 0 sl) (by kernel_rfl) (by kernel_rfl) BZ11.out (info_pat.trans rfl) rfl (patC_one _ _ _ _ _ _ _ _ _ _ _) ?_; intro w12 hw12 hb12; have B12 := Lib.hid hb12))
          have hDg : w.heap.size ≠ D := by have h1 := HD.out; have h2 := HGB.out; have h3 := HG26.out; omega
          have hD4 : g4 ≠ D := by have h1 := HD.out; have h2 := HG44.out; omega
          have hDl : D < w10.heap.size := (Array.getElem?_eq_some_iff.1 HD10.out).1
          have hD11 : w11.heap[D]? = some (.deferred (some [])) := (K1011.out.block D hDl (fun e => hD4 e.symm)).trans HD10.out
          have hD12 : w12.heap[D]? = some (.deferred (some [])) := by rw [hw12.out]; exact (setRow_other w11 w.heap.size D _ (fun h => hDg h.symm)).trans hD11
          have K12 : Kept (fun b => b = w.heap.size) w11 w12 := by rw [hw12.out]; exact Kept.setRow (F := fun b => b = w.heap.size) w11 rfl _
          have K13 : Kept (fun b => b = D) w12 (w12.putObj D (.deferred none)) := Kept.putObj (F := fun b => b = D) w12 rfl (.deferred none)
          have hbF : Blk (w12.putObj D (.deferred none)) w.heap.size 42 (patC 0 0 0 none 0 0 0 none 0 0 sl) := K13.blk B12.out hDg
          have R12 := rdr_off R11.out K12 BZ11.out HNZ.out (patC_no8 _ _ _ _ _ _ _ _ _ _ _)
          have R13 := rdr_def R12 K13 hD12 HGD.out.symm
          refine ⟨by simp, .inl ⟨_, _, rfl, run_takeDeferred hD12, ?_⟩⟩
          refine ⟨_, results_blk Tryz.results36 _ _ w.heap.size 42 (patC 0 0 0 none 0 0 0 none 0 0 sl) _ (by rfl) hbF Tryz.underlying42 rfl (info_pat.trans rfl), ?_⟩
          refine ⟨⟨_, rfl, rfl, patC_one _ _ _ _ _ _ _ _ _ _ _⟩, ⟨_, _, _, _, R13⟩, ?_⟩
          have hz := HGB.out
          have hA : Kept (fun b => b = g ∨ w.heap.size ≤ b) w w10 := ((KW.out.trans KW9.out).trans K10.out).mono (fun b _ h => Or.inl h)
          have hB : Kept (fun b => b = g ∨ w.heap.size ≤ b) w10 (w12.putObj D (.deferred none)) := ((K1011.out.mono (fun b _ h => Or.inr (by have := HG4.out; omega))).trans (K12.mono (fun b _ h => Or.inr (by omega)))).trans (K13.mono (fun b _ h => Or.inr (by have h1 := HD.out; have h3 := HG26.out; omega)))
          exact (hA.trans hB).mono (fun b hb h => by
            rcases h with h | h
            · exact h
            · omega)
        · have h0' : decide ((0 : Int) < x2) = false := decide_eq_false h0
          go_upto_region 14 with (go_at_call 80; (with_reducible refine HTX.out.mono ?_); rintro e10 w10 ⟨rfl, ⟨A11, n11, c11, hr11⟩, hk11⟩; have R10 := Lib.hid hr11; have K10 := Lib.hid hk11; obtain ⟨hz10, hp10, hd10⟩ := HEND.out w10 hk11; have BZ10 := Lib.hid hz10; have BP10 := Lib.hid hp10; have HD10 := Lib.hid hd10; have c106 := hp10.cell 6; have f106 := hp10.frozen 6; clear hr11 hk11 hz10 hp10 hd10)
          obtain ⟨w11, hw11⟩ : ∃ x, x = w10.setCell ⟨g4, 6, none⟩ (.string (decS (List.drop u2 (rest1 (rest1 l)))).1) := ⟨_, rfl⟩
          change Code.wp _ _ _ _ (w10.setCell ⟨g4, 6, none⟩ (.string (decS (List.drop u2 (rest1 (rest1 l)))).1))
          rw [← hw11]
          obtain ⟨sl, hsl⟩ : ∃ s, s = (decS (List.drop u2 (rest1 (rest1 l)))).1 := ⟨_, rfl⟩
          have K1011 : Hid (Kept (fun b => b = g4) w10 w11) := Lib.hid (by rw [hw11]; exact Kept.setCell (F := fun b => b = g4) (p := ⟨g4, 6, none⟩) w10 rfl _)
          have BP11 : Hid (Blk w11 g4 42 (patC 0 0 0 none 0 0 0 none 0 0 sl)) := Lib.hid (by rw [hw11, ← hsl]; exact BP10.out.set 6 _)
          have HZ4 : Hid (w.heap.size ≠ g4) := Lib.hid (by have h1 := HG4.out; have h3 := HGB.out; omega)
          have BZ11 : Hid (Blk w11 w.heap.size 42 P0) := Lib.hid (K1011.out.blk BZ10.out HZ4.out)
          have R11 : Hid (Rdr w11 g (textR (List.drop u2 (rest1 (rest1 l)))) A11 n11 c11 (textB (List.drop u2 (rest1 (rest1 l))) true)) := Lib.hid (rdr_off R10.out K1011.out BP10.out HN4.out (patC_no8 _ _ _ _ _ _ _ _ _ _ _))
          clear hw11 hsl c106 f106 c91
          go_wp2_with (first
            | (refine wpList_load_blk rfl 42 (.tmp 4) rfl g4 (by kernel_rfl) BP11.out Tryz.underlying42 rfl (info_pat.trans rfl) ?_)
            | (refine wpList_store_blk rfl 42 (.tmp 2) (.tmp 91) rfl w.heap.size (patC 0 0 0 none 0 0 0 none 0 0 sl) (by kernel_rfl) (by kernel_rfl) BZ11.out (info_pat.trans rfl) rfl (patC_one _ _ _ _ _ _ _ _ _ _ _) ?_; intro w12 hw12 hb12; have B12 := Lib.hid hb12))
          have hDg : w.heap.size ≠ D := by have h1 := HD.out; have h2 := HGB.out; have h3 := HG26.out; omega
          have hD4 : g4 ≠ D := by have h1 := HD.out; have h2 := HG44.out; omega
          have hDl : D < w10.heap.size := (Array.getElem?_eq_some_iff.1 HD10.out).1
          have hD11 : w11.heap[D]? = some (.deferred (some [])) := (K1011.out.block D hDl (fun e => hD4 e.symm)).trans HD10.out
          have hD12 : w12.heap[D]? = some (.deferred (some [])) := by rw [hw12.out]; exact (setRow_other w11 w.heap.size D _ (fun h => hDg h.symm)).trans hD11
          have K12 : Kept (fun b => b = w.heap.size) w11 w12 := by rw [hw12.out]; exact Kept.setRow (F := fun b => b = w.heap.size) w11 rfl _
          have K13 : Kept (fun b => b = D) w12 (w12.putObj D (.deferred none)) := Kept.putObj (F := fun b => b = D) w12 rfl (.deferred none)
          have hbF : Blk (w12.putObj D (.deferred none)) w.heap.size 42 (patC 0 0 0 none 0 0 0 none 0 0 sl) := K13.blk B12.out hDg
          have R12 := rdr_off R11.out K12 BZ11.out HNZ.out (patC_no8 _ _ _ _ _ _ _ _ _ _ _)
          have R13 := rdr_def R12 K13 hD12 HGD.out.symm
          refine ⟨by simp, .inl ⟨_, _, rfl, run_takeDeferred hD12, ?_⟩⟩
          refine ⟨_, results_blk Tryz.results36 _ _ w.heap.size 42 (patC 0 0 0 none 0 0 0 none 0 0 sl) _ (by rfl) hbF Tryz.underlying42 rfl (info_pat.trans rfl), ?_⟩
          refine ⟨⟨_, rfl, rfl, patC_one _ _ _ _ _ _ _ _ _ _ _⟩, ⟨_, _, _, _, R13⟩, ?_⟩
          have hz := HGB.out
          have hA : Kept (fun b => b = g ∨ w.heap.size ≤ b) w w10 := ((KW.out.trans KW9.out).trans K10.out).mono (fun b _ h => Or.inl h)
          have hB : Kept (fun b => b = g ∨ w.heap.size ≤ b) w10 (w12.putObj D (.deferred none)) := ((K1011.out.mono (fun b _ h => Or.inr (by have := HG4.out; omega))).trans (K12.mono (fun b _ h => Or.inr (by omega)))).trans (K13.mono (fun b _ h => Or.inr (by have h1 := HD.out; have h3 := HG26.out; omega)))
          exact (hA.trans hB).mono (fun b hb h => by
            rcases h with h | h
            · exact h
            · omega)
theorem build_rdr (A : Option Addr) (n c : Nat) : Tryz.prog.built 89 [(0, .slice A n c)] = some ([.slice A n c, .bool false] : List Value).toArray := by kernel_rfl
set_option maxHeartbeats 4000000 in
set_option maxRecDepth 100000 in
theorem pdecode_bad (l : List Int) (A : Option Addr) (n c : Nat) (w : World) (hl : Rd w w.heap.size A n (u8s l)) (hby : Byt l) (hnc : n ≤ c) (hc : c ≤ 9223372036854775807) (hn : n ≤ 1000000000000) (hbad : intsB l false 4 1 = true) :
    Calls Tryz.prog 13 #[.slice A n c] w fun e w' => e = .returned (.tuple #[.agg P0.toArray, .int .i64 0, .int .i64 2]) ∧ Ext w w' := by
  have H : Hid (∀ W g, Ext w W → Blk W g 89 [.slice A n c, .bool false] → w.heap.size ≤ g → Rdr W g l A n c false) := Lib.hid (fun W g hW hb hg => ⟨hb, hl.ext' hW, hby, hnc, hc, hn⟩)
  have HB := Lib.hid hbad
  have zz := zero_pat
  clear hl hby hnc hc hn hbad
  go_enter Tryz.func13, Tryz.ntmps13
  go_upto_region 1 with fail
  obtain ⟨w1, hw1⟩ : ∃ x, x = w.alloc (.cells P0.toArray 42) := ⟨_, rfl⟩
  change Code.wp _ _ _ _ (w.alloc (.cells P0.toArray 42))
  rw [← hw1]
  have E1 : Hid (Ext w w1) := Lib.hid (by rw [hw1]; exact (Ext.refl w).alloc _)
  have BZ1 : Hid (Blk w1 w.heap.size 42 P0) := Lib.hid (by rw [hw1]; exact Blk.fresh' _ _ _ _ _ rfl rfl)
  clear hw1
  go_upto_region 2 with (refine wpList_build_eq (by rfl) 89 _ rfl _ (by kernel_rfl) _ (build_rdr A n c) ?_)
  obtain ⟨w2, hw2⟩ : ∃ x, x = w1.alloc (.cells #[.slice A n c, .bool false] 89) := ⟨_, rfl⟩
  change Code.wp _ _ _ _ (w1.alloc (.cells #[.slice A n c, .bool false] 89))
  rw [← hw2]
  have E12 : Hid (Ext w1 w2) := Lib.hid (by rw [hw2]; exact (Ext.refl w1).alloc _)
  have BG : Hid (Blk w2 w1.heap.size 89 [.slice A n c, .bool false]) := Lib.hid (by rw [hw2]; exact Blk.fresh' _ _ _ _ _ rfl rfl)
  obtain ⟨g, hg⟩ : ∃ g, g = w1.heap.size := ⟨_, rfl⟩
  rw [← hg] at BG ⊢
  have HGW : Hid (w.heap.size < g) := Lib.hid (by rw [hg]; exact BZ1.out.lt)
  have E2 : Hid (Ext w w2) := Lib.hid (E1.out.next E12.out)
  have BZ2 := Lib.hid (BZ1.out.ext E12.out)
  have HPB := Lib.hid (patch_bad l A n c g w2 (H.out w2 g E2.out BG.out (Nat.le_of_lt HGW.out)) HB.out)
  clear hw2 hg H BZ1 E1 E12 BG
  go_upto_region 3 with (first
    | (go_at_call 36; (with_reducible refine HPB.out.mono ?_); rintro e w3 ⟨⟨cs, rfl, hcl, hco⟩, ⟨l2, A2, n2, c2, hr3⟩, hk3⟩; have HCL := Lib.hid hcl; have HCO := Lib.hid hco; have R3 := Lib.hid hr3; have K3 := Lib.hid hk3; clear hcl hco hr3 hk3)
    | (refine wpList_store_freshw rfl 42 (.tmp 6) (.tmp 13) rfl w3.heap.size rfl P0 cs 42 (by kernel_rfl) (by kernel_rfl) (info_pat.trans (congrArg some HCL.out.symm)) (Eq.trans (b := 7) rfl HCL.out.symm) HCO.out ?_; intro w4 hw4 hE4 hz4; have E34 := Lib.hid hE4; clear hw4 hE4 hz4))
  have E4 : Hid (Ext w w4) := Lib.hid ((ext_kept E2.out K3.out (fun b hb => by rw [hb]; exact Nat.le_of_lt HGW.out)).next E34.out)
  have R4 := Lib.hid (R3.out.ext E34.out)
  have c41 := R4.out.blk.cell 1
  have BZ4 : Hid (Blk w4 w.heap.size 42 P0) := Lib.hid ((K3.out.blk BZ2.out (fun e => by have := HGW.out; omega)).ext E34.out)
  go_wp2_with (first
    | (refine wpList_build_eq (by rfl) 42 _ rfl _ (by kernel_rfl) _ build_pat0 ?_)
    | (refine wpList_store_blk rfl 42 (.tmp 2) (.tmp 18) rfl w.heap.size P0 (by kernel_rfl) (by kernel_rfl) BZ4.out (info_pat.trans rfl) rfl (patC_one _ _ _ _ _ _ _ _ _ _ _) ?_; intro w5 hw5 hb5; have B5 := Lib.hid hb5))
  exact bodyPost_ret (results_blk_bit3 Tryz.results13 _ _ w.heap.size 42 P0 _ (by rfl) B5.out Tryz.underlying42 rfl (info_pat.trans rfl)) rfl ⟨rfl, by rw [hw5.out]; exact E4.out.setRow (Nat.le_refl _) _⟩
end Go.Proofs.YtjeecfjeooehhaaGreatDoor
