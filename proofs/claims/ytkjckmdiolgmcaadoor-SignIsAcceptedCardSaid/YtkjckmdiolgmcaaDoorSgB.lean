/- strings.Builder: the copy check, Write, String. No condition beyond lengths. -/
import Derived.Test.YtkjckmdiolgmcaaDoorSgA
import Derived.Test.YtkjckmdiolgmcaaDoorKept
import Derived.Lib.Builder
import Derived.Lib.UnsafeStr
set_option linter.unusedSimpArgs false
set_option linter.unusedVariables false
namespace Go.Proofs.YtkjckmdiolgmcaaDoor
open Go.RowKit
theorem bld_size : (Tryd.prog.info? 46).map (·.size) = some 2 := by kernel_rfl
theorem bld_lies : liesAt Tryd.prog Tryd.prog.depth 46 (2 / Tryd.prog.cellsOf 46) 0 46 1 = true := by kernel_rfl
theorem copyCheck_used (b : Nat) (w : World) (h0 : w.cell? ⟨b, 0, none⟩ = some (.pointer (some ⟨b, 0, none⟩))) :
    Calls Tryd.prog 29 #[.pointer (some ⟨b, 0, none⟩)] w fun e w' => e = .returned (.tuple #[]) ∧ w = w' := by
  go_enter Tryd.func29, Tryd.ntmps29
  obtain ⟨j, hj, hjs⟩ := Option.map_eq_some_iff.1 bld_size
  have hpq := Lib.run_neq_ptr_same (P := Tryd.prog) w ⟨b, 0, none⟩ Tryd.underlying44 hj
  go_wp2_with fail
  go_end0
  exact ⟨rfl, rfl⟩
theorem copyCheck_fresh (b : Nat) (v : Value) (w : World) (hb : Blk w b 46 [.pointer none, v]) :
    Calls Tryd.prog 29 #[.pointer (some ⟨b, 0, none⟩)] w fun e w' => e = .returned (.tuple #[]) ∧ w' = w.setCell ⟨b, 0, none⟩ (.pointer (some ⟨b, 0, none⟩)) := by
  obtain ⟨j, hj, hjs⟩ := Option.map_eq_some_iff.1 bld_size
  have h0 : w.cell? ⟨b, 0, none⟩ = some (.pointer none) := hb.cell 0
  have hfz := hb.frozen 0
  have hsh : w.shape? b = some (46, 2) := by
    have h := hb
    unfold Blk at h
    simp [World.shape?, h]
  go_enter Tryd.func29, Tryd.ntmps29
  have hcv1 := Lib.run_to_unsafe (P := Tryd.prog) w ⟨b, 0, none⟩ Tryd.underlying44 Tryd.underlying80 hj (by rw [hjs]; decide) hsh (Nat.zero_lt_succ 1)
  have hcv2 := Lib.run_from_unsafe (P := Tryd.prog) w ⟨b, 0, none⟩ Tryd.underlying80 Tryd.underlying44 hj hsh bld_lies
  go_wp2_with fail
  rw [run_callFunc_extern Tryd.func36 (by kernel_rfl) (by kernel_rfl) (by kernel_rfl) (e := Extern.AbiNoEscape.same) (by kernel_rfl)]
  rw [Lib.run_noEscape]
  simp only [Result.andThen]
  rw [Oper.upon_value]
  go_wp2_with fail
  go_end0
  exact ⟨rfl, rfl⟩
theorem copyCheck_any (b : Nat) (p : Option Addr) (v : Value) (w : World) (hb : Blk w b 46 [.pointer p, v]) (hp : p = none ∨ p = some ⟨b, 0, none⟩) :
    Calls Tryd.prog 29 #[.pointer (some ⟨b, 0, none⟩)] w fun e w' => e = .returned (.tuple #[]) ∧ Blk w' b 46 [.pointer (some ⟨b, 0, none⟩), v] ∧ Kept (fun x => x = b) w w' := by
  rcases hp with rfl | rfl
  · refine (copyCheck_fresh b v w hb).mono ?_
    rintro e w' ⟨rfl, rfl⟩
    exact ⟨rfl, hb.set 0 _, Kept.setCell (F := fun x => x = b) (p := ⟨b, 0, none⟩) w rfl _⟩
  · refine (copyCheck_used b w (hb.cell 0)).mono ?_
    rintro e w' ⟨rfl, rfl⟩
    exact ⟨rfl, hb, Kept.refl _ _⟩
/-- A builder at b that holds the bytes L; its row lies at base or behind. -/
def Bld (base : Nat) (w : World) (b : Nat) (L : List Int) : Prop := base ≤ b ∧ ∃ p A c, (p = none ∨ p = some ⟨b, 0, none⟩) ∧ Blk w b 46 [.pointer p, .slice A L.length c] ∧ w.ownsRow base 5 1 (.slice A L.length c) L.length (u8s L) ∧ (Value.slice A L.length c).ownBlock ≠ some b
theorem Bld.fresh (base : Nat) (w : World) (h : base ≤ w.heap.size) : Bld base (w.alloc (.cells #[.pointer none, .slice none 0 0] 46)) w.heap.size [] :=
  ⟨h, none, none, 0, Or.inl rfl, Blk.fresh _ _ _, World.ownsRow_nil _ _ _ _, fun h => by cases h⟩
theorem Bld.ext {base : Nat} {w w' : World} {b : Nat} {L : List Int} (h : Bld base w b L) (hE : Ext w w') : Bld base w' b L := by
  obtain ⟨h0, p, A, c, hp, hb, ho, hn⟩ := h
  exact ⟨h0, p, A, c, hp, hb.ext hE, (Kept.of_ext (F := fun _ => False) hE).own ho (fun _ _ h => h), hn⟩
theorem rd_off {w w' : World} {b : Nat} {p' : Option Addr} {A : Option Addr} {n c : Nat} {B : Option Addr} {k : Nat} {X : List Int} (hb : Blk w b 46 [.pointer p', .slice A n c]) (hk : Kept (fun x => x = b) w w') (hx : Rd w w.heap.size B k (u8s X)) : Rd w' w'.heap.size B k (u8s X) := by
  refine ⟨hx.1, fun h0 => ?_⟩
  obtain ⟨g, o, hA, hg, hc⟩ := hx.2 h0
  refine ⟨g, o, hA, Nat.lt_of_lt_of_le hg hk.size, fun j u hj => ?_⟩
  have h1 := hc j u hj
  refine (hk.cell (p := ⟨g, o + j, none⟩) hg (fun e => ?_)).trans h1
  have e : g = b := e
  subst e
  rw [hb.cell (o + j)] at h1
  have hu : ∃ x, u = .int .u8 x := by
    simp only [u8s, List.getElem?_map, Option.map_eq_some_iff] at hj
    obtain ⟨x, _, rfl⟩ := hj
    exact ⟨x, rfl⟩
  obtain ⟨x, rfl⟩ := hu
  obtain ⟨q, hq⟩ : ∃ q, q = o + j := ⟨_, rfl⟩
  rw [← hq] at h1
  rcases q with _ | _ | q
  · simp at h1
  · simp at h1
  · simp at h1
theorem own_ne {w : World} {g : Nat} {t e : TypeId} {cs : List Value} {base size n : Nat} {v : Value} {xs : List Value} (hb : Blk w g t cs) (ho : w.ownsRow base e size v n xs) (he : e ≠ t) : v.ownBlock ≠ some g := fun h => by
  rcases ho.2 with ⟨h1, _⟩ | ⟨g', cap, cur, rfl, h1, h2, _⟩
  · rw [h1] at h; cases h
  · injection h with h
    subst h
    unfold Blk at hb
    rw [hb] at h2
    injection h2 with h2
    injection h2 with _ h2 _
    exact he h2.symm
theorem sg_ext {w0 w w' : World} {F : Nat → Prop} (h : Ext w0 w) (k : Kept F w w') (hF : ∀ b, F b → w0.heap.size ≤ b) : Ext w0 w' :=
  ((Kept.of_ext (F := F) h).trans k).ext hF
set_option maxHeartbeats 1000000 in
theorem write_any (base b : Nat) (L X : List Int) (B : Option Addr) (k d : Nat) (w w0 : World) (hS : Bld base w b L) (hx : Rd w w.heap.size B k (u8s X)) (hlen : L.length + k ≤ 1000000000) (hb0 : base = w0.heap.size) (hE : Ext w0 w) :
    Calls Tryd.prog 16 #[.pointer (some ⟨b, 0, none⟩), .slice B k d] w fun e w' => e = .returned (.tuple #[.int .i64 k, .nilIface]) ∧ Bld base w' b (L ++ X) ∧ Ext w0 w' ∧ ∀ g t cs, g ≠ b → t ≠ 5 → Blk w g t cs → Blk w' g t cs := by
  obtain ⟨i0, hi, hz0, hz1, hz2⟩ := info_parts winfo_u8
  obtain ⟨h0, p, A, c, hp, hb, ho, hn⟩ := hS
  have hxl : X.length = k := by simpa [u8s] using hx.1
  have HO := Lib.hid ho; have HX := Lib.hid hx; have HN := Lib.hid hn; have HE := Lib.hid hE
  have HC := Lib.hid (copyCheck_any b p _ w hb hp)
  have HB0 := Lib.hid hb
  have HXL := Lib.hid hxl
  obtain ⟨n, hnl⟩ : ∃ n, n = L.length := ⟨_, rfl⟩
  rw [← hnl] at HO HN HC HB0 hlen
  have HNL := Lib.hid hnl
  clear hb ho hx hn hE hp hxl hnl
  go_enter Tryd.func16, Tryd.ntmps16
  go_upto_region 2 with (go_loud (go_at_call 29; (with_reducible refine HC.out.mono ?_); rintro e w1 ⟨rfl, hb1, hk1⟩; have HB1 := Lib.hid hb1; have HK1 := Lib.hid hk1; clear hb1 hk1))
  have HX1 : Hid (Rd w1 w1.heap.size B k (u8s X)) := Lib.hid (rd_off HB0.out HK1.out HX.out)
  have HO1 : Hid (w1.ownsRow base 5 1 (.slice A n c) n (u8s L)) := Lib.hid (HK1.out.own HO.out (fun x hx he => HN.out (by rw [hx, he])))
  have hs1 := HK1.out.size
  have hsE := HE.out.size
  have c1 : w1.cell? ⟨b, 1, none⟩ = some (.slice A n c) := HB1.out.cell 1
  go_wp2_with (at_builtin; refine wpList_app rfl (.tmp 12) (.tmp 13) 43 rfl base 5 i0 (.int .u8 0) 1 1 Tryd.underlying43 hi hz0 hz1 hz2 rfl (by omega) A n c (u8s L) rfl HO1.out w1.heap.size B k d (u8s X) rfl (RdN.of_Rd HX1.out) (u8s_one _) (by simp only [maxLen]; omega) (by omega) (by omega) ?_; rw [← u8s_append]; intro A7 c7 w7 o7 hg7; have B7 := Lib.hid (HB1.out.grown hg7 (fun e => HN.out e.symm)); have O7 := Lib.hid o7; have G7 := Lib.hid hg7; have e7 : w7.cell? ⟨b, 1, none⟩ = some (.slice A n c) := B7.out.cell 1; have f7 := B7.out.frozen 1; clear o7 hg7 c1)
  go_ret2
  have K7 : Kept (fun x => base ≤ x) w1 w7 := Kept.of_grown G7.out (fun x hx _ => by have := (HO1.out.lt x hx).1; omega)
  have K8 : Kept (fun x => x = b) w7 (w7.setCell ⟨b, 1, none⟩ (.slice A7 (n + k) c7)) := Kept.setCell (F := fun x => x = b) (p := ⟨b, 1, none⟩) w7 rfl _
  have hL : (L ++ X).length = n + k := by rw [List.length_append, HXL.out, HNL.out]
  have hne : (Value.slice A7 (n + k) c7).ownBlock ≠ some b := own_ne B7.out O7.out (by decide)
  refine ⟨rfl, ⟨h0, some ⟨b, 0, none⟩, A7, c7, Or.inr rfl, ?_, ?_, ?_⟩, ?_, fun g t cs hgb ht hg => ?_⟩
  · rw [hL]; exact B7.out.set 1 _
  · rw [hL]; exact K8.own O7.out (fun x hx he => hne (by rw [hx, he]))
  · rw [hL]; exact hne
  · exact sg_ext HE.out (((HK1.out.mono (fun x _ hx => by rw [hx]; exact h0)).trans K7).trans (K8.mono (fun x _ hx => by rw [hx]; exact h0))) (fun x hx => by rw [← hb0]; exact hx)
  · have g1 := HK1.out.blk hg hgb
    exact K8.blk (g1.grown G7.out (fun e => own_ne g1 HO1.out (Ne.symm ht) e.symm)) hgb
theorem cells_u8 : Tryd.prog.cellsOf 5 = 1 := by kernel_rfl
theorem strOf_size' (L : List Int) : (strOf L).data.toList.length = L.length := by simp [strOf]
set_option maxHeartbeats 4000000 in
set_option maxRecDepth 100000 in
theorem string_any (base b : Nat) (L : List Int) (w w0 : World) (hS : Bld base w b L) (hB : Byt L) (h0 : 0 < L.length) (hlen : L.length ≤ 1000000000) (hb0 : base = w0.heap.size) (hE : Ext w0 w) :
    Calls Tryd.prog 20 #[.pointer (some ⟨b, 0, none⟩)] w fun e w' => e = .returned (.string (strOf L)) ∧ Ext w0 w' ∧ ∀ t cs, t ≠ 5 → Blk w base t cs → Blk w' base t cs := by
  obtain ⟨hbb, p, A, c, hp, hb, ho, hn⟩ := hS
  obtain ⟨l, hl⟩ : ∃ l, l = (strOf L).data.toList := ⟨_, rfl⟩
  have hll : l.length = L.length := by rw [hl]; exact strOf_size' L
  have hls : strOf L = ⟨l.toArray⟩ := by rw [hl]
  obtain ⟨g, cap, cur, hA, hbg, hg, hnc, hcm, hcs, htake⟩ : ∃ g cap cur, Value.slice A L.length c = .slice (some ⟨g, 0, none⟩) L.length cap ∧ base ≤ g ∧ w.heap[g]? = some (.cells cur 5 (0, 0)) ∧ L.length ≤ cap ∧ cap ≤ maxLen ∧ cur.size = cap * 1 ∧ cur.toList.take (L.length * 1) = u8s L := by
    rcases ho.2 with ⟨_, hz⟩ | ⟨g, cap, cur, hv, r⟩
    · omega
    · exact ⟨g, cap, cur, hv, r⟩
  injection hA with hA1 _ hA3
  subst hA1; subst hA3
  have c1 : w.drew.cell? ⟨b, 1, none⟩ = some (.slice (some ⟨g, 0, none⟩) L.length c) := hb.cell 1
  have hSD : (Builtin.unsafeSliceData_ #[43] 67 #[.slice (some ⟨g, 0, none⟩) L.length c]).run Tryd.prog w.drew = .ok (.pointer (some ⟨g, 0, none⟩)) w.drew :=
    Lib.run_unsafeSliceData_row _ _ _ _ _ _ (by omega)
  have hUS : (Builtin.unsafeString_ #[67, 3] 9 #[.pointer (some ⟨g, 0, none⟩), .int .i64 L.length]).run Tryd.prog w.drew = .ok (.string ⟨l.toArray⟩) (w.drew.freeze ⟨g, 0, none⟩ l.length) := by
    rw [← hll]
    refine Lib.run_unsafeString_row w.drew 67 3 9 5 Tryd.underlying67 cells_u8 g cur.size (by have hg' : w.drew.heap[g]? = some (.cells cur 5 (0, 0)) := hg; simp [World.shape?, hg']) l (by intro h; rw [h] at hll; simp at hll; omega) (by omega) (by omega) ?_
    intro j x hx
    refine ho.cells (g := g) rfl j (.int .u8 x.toNat) ?_
    have e1 : u8s L = u8s (bys (strOf L)) := by rw [bys_strOf L hB]
    rw [e1]
    simp only [u8s, bys, List.map_map, List.getElem?_map, ← hl, hx]
    rfl
  rw [hls]
  have HE := Lib.hid hE; have HG := Lib.hid hg
  clear hE hl hls hb ho hg htake hn hp
  go_enter Tryd.func20, Tryd.ntmps20
  go_wp2_with fail
  go_region
  all_goals (go_wp2_with fail; go_ret; exact ⟨rfl, Lib.below_freeze (Below.drew HE.out) (p := ⟨g, 0, none⟩) (by rw [← hb0]; exact hbg) _, fun t cs ht hB => by
    have hne : g ≠ base := fun e => by
      subst e
      have h2 := HG.out
      unfold Blk at hB
      rw [hB] at h2
      injection h2 with h2
      injection h2 with _ h2 _
      exact ht h2
    exact ((Lib.below_freeze (Below.drew (Below.refl (base + 1) w)) (p := ⟨g, 0, none⟩) (show base + 1 ≤ g by omega) _).block base (Nat.lt_succ_self _)).trans hB⟩)
end Go.Proofs.YtkjckmdiolgmcaaDoor
