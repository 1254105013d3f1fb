/- The walk of hash.compress. No condition. -/
import Derived.Test.YtkjckmdiolgmcaaDoorHashA
import Derived.Deep.DeepCutAuto
set_option linter.unusedSimpArgs false
set_option linter.unusedVariables false
namespace Go.Proofs.YtkjckmdiolgmcaaDoor
open Go.RowKit
/-- The table of the round constants lies in block 0. -/
def KTab (w : World) : Prop := Tab w 0 (u32s kc)
theorem info_8u32 : (Tryd.prog.info? 71).map (·.size) = some 8 := by kernel_rfl
theorem mix_any' (x i j k : Int) (w : World) (i0 : 1 ≤ i) (i1 : i ≤ 31) (j0 : 1 ≤ j) (j1 : j ≤ 31) (k0 : 1 ≤ k) (k1 : k ≤ 31) :
    Calls Tryd.prog 42 #[.int .u32 x, .int .i64 i, .int .i64 j, .int .i64 k] w fun e w' => e = .returned (.int .u32 (mixI x i j k)) ∧ w' = w :=
  (mix_any x i j k w i0 i1 j0 j1 k0 k1).mono fun _ _ h => ⟨h.1, h.2.symm⟩
theorem index_kc (t : Nat) (h : t < 64) (W : World) : (Instr.index 85 (.agg (u32s kc).toArray) (.int .i64 t)).run Tryd.prog W = .ok (.int .u32 (kc.getD t 0)) W := by
  have h1 : (0 : Int) ≤ t ∧ (t : Int) < 64 := by omega
  have h2 : (u32s kc)[t]? = some (.int .u32 (kc.getD t 0)) := u32s_get kc t h
  simp [Instr.index, run_underlying Tryd.underlying85, go_sem, h1]
  rw [if_pos h, h2]
  simp
set_option maxHeartbeats 800000 in
set_option maxRecDepth 100000 in
theorem compress_any (s : St) (l : List Int) (g o c : Nat) (w : World) (hl : l.length = 64) (hc : ∀ j, j < 64 → w.cell? ⟨g, o + j, none⟩ = some (.int .u8 (l.getD j 0))) (hb : Byt l) (hcap : 64 ≤ c) (hcm : c ≤ 9223372036854775807) (hK : KTab w) :
    Calls Tryd.prog 40 #[.agg #[.int .u32 s.a, .int .u32 s.b, .int .u32 s.c, .int .u32 s.d, .int .u32 s.e, .int .u32 s.f, .int .u32 s.g, .int .u32 s.h], .slice (some ⟨g, o, none⟩) 64 c] w fun e w' => e = .returned (.agg (u32s (compI s l).list).toArray) ∧ Below w.heap.size w w' := by
  have hg : g < w.heap.size := World.block_lt_of_cell? w _ (hc 0 (by omega))
  obtain ⟨sa, sb, sc, sd, se, sf, sg, sh⟩ := s
  simp only
  have HC := Lib.hid hc
  clear hc
  go_enter Tryd.func40, Tryd.ntmps40
  go_upto_region 1 with (fail)
  go_cut [5] (fun s5 wx => ∃ p, w.heap.size + 2 ≤ p ∧ s5 = .pointer (some ⟨p, 0, none⟩) ∧ Blk wx w.heap.size 71 (u32s [sa, sb, sc, sd, se, sf, sg, sh]) ∧ Blk wx (w.heap.size + 1) 71 (u32s [0, 0, 0, 0, 0, 0, 0, 0]) ∧ Blk wx p 85 (u32s (wl l 64)) ∧ Below w.heap.size w wx)
  case first =>
    go_wp2_with fail
    with_reducible refine (schedule_any l g o c _ hl (fun j hj => ?_) hb hcap hcm).mono ?_
    · rw [World.cell?_alloc_lt _ _ _ (by simp; omega), World.cell?_alloc_lt _ _ _ (by simp; omega)]; exact HC.out j hj
    rintro e w1 ⟨rfl, hB1⟩
    have hz := hB1.size
    simp at hz
    have hb0 : Blk w1 w.heap.size 71 (u32s [sa, sb, sc, sd, se, sf, sg, sh]) := ((Blk.fresh' _ _ _ _ _ rfl rfl).alloc _).below hB1 (by simp; omega)
    have hb1 : Blk w1 (w.heap.size + 1) 71 (u32s [0, 0, 0, 0, 0, 0, 0, 0]) := (Blk.fresh' _ _ _ _ _ rfl (by simp)).below hB1 (by simp)
    have hs : (u32s (wl l 64)).toArray.size = 64 := by simp [u32s, wl_length]
    have hone : (u32s (wl l 64)).toArray.all (·.oneCell') = true := by simp [u32s, Value.oneCell']
    have hBB : Below w.heap.size w w1 := (((Below.refl _ _).alloc (Nat.le_refl _) _).alloc (by simp) _).trans (hB1.mono (by simp; omega))
    have HB0 := Lib.hid hb0; have HB1 := Lib.hid hb1; clear hb0 hb1
    go_wp2_with (refine wpList_store_row rfl 85 (.tmp 5) (.tmp 14) rfl w1.heap.size _ rfl rfl 85 _ (heap_alloc_new _ _) (info_64u32.trans (congrArg some hs.symm)) hs.symm hone ?_)
    go_meet
    case rel => exact ⟨_, hz, rfl, (HB0.out.alloc _).setRow_far (by omega) _, (HB1.out.alloc _).setRow_far (by omega) _, Blk.setRow (Blk.fresh' _ _ (u32s (List.replicate 64 0)) _ _ rfl rfl) _, below_row (hBB.alloc (by omega) _) (by omega) _⟩
  case rest =>
    obtain ⟨p, hp, rfl, hb0, hb1, hbp, hBB⟩ := hcut
    obtain ⟨wb, rfl⟩ : ∃ x : World, x = wc := ⟨_, rfl⟩
    have c0 := hb0.cell 0
    have c1 := hb0.cell 1
    have c2 := hb0.cell 2
    have c3 := hb0.cell 3
    have c4 := hb0.cell 4
    have c5 := hb0.cell 5
    have c6 := hb0.cell 6
    have c7 := hb0.cell 7
    simp only [u32s, List.map_cons, List.map_nil, List.getElem?_cons_zero, List.getElem?_cons_succ] at c0 c1 c2 c3 c4 c5 c6 c7
    have HB0 := Lib.hid hb0; have HB1 := Lib.hid hb1; have HBP := Lib.hid hbp; clear hb0 hb1 hbp
    have hK2 : KTab wb := Tab.below hK hBB (by have := Tab.lt hK; exact this)
    have HK := Lib.hid hK2; clear hK2 hK
    have e0 : wb.heap.size ≠ w.heap.size := Nat.ne_of_gt (World.block_lt_of_cell? wb _ c0)
    have hlt := Blk.lt HB0.out
    have ha := fun (W : World) (a : Option Addr) (cap : Nat) => run_arrayAt (P := Tryd.prog) W 87 70 4 a 4 cap Tryd.underlying87 (Nat.le_refl _)
    go_upto_region 2 with (fail)
    go_cut [6, 7] (fun s6 s7 wx => ∃ p6 p7, s6 = .pointer (some ⟨p6, 0, none⟩) ∧ s7 = .pointer (some ⟨p7, 0, none⟩) ∧ wb.heap.size ≤ p6 ∧ wb.heap.size ≤ p7 ∧ p6 ≠ p7 ∧ Blk wx p6 87 (u32s [sa, sb, sc, sd]) ∧ Blk wx p7 87 (u32s [se, sf, sg, sh]) ∧ Below wb.heap.size wb wx)
    case first =>
      go_region
      all_goals
        clear ha e0
        go_wp2_with fail
        go_meet
        case rel =>
          first
            | exact ⟨_, _, rfl, rfl, Nat.le_refl _, Nat.le_succ _, by simp, ((Blk.fresh' _ _ _ _ _ rfl rfl).alloc _).drew, (Blk.fresh' _ _ _ _ _ rfl (by simp)).drew, ((((Below.refl _ _).alloc (Nat.le_refl _) _).alloc (by simp) _)).drew⟩
            | exact ⟨_, _, rfl, rfl, Nat.le_succ _, Nat.le_refl _, by simp, (Blk.fresh' _ _ _ _ _ rfl (by simp)).drew, ((Blk.fresh' _ _ _ _ _ rfl rfl).alloc _).drew, ((((Below.refl _ _).alloc (Nat.le_refl _) _).alloc (by simp) _)).drew⟩
    case rest =>
      clear ha e0 c0 c1 c2 c3 c4 c5 c6 c7
      obtain ⟨p6, p7, rfl, rfl, h6, h7, h67, hv, he, hBc⟩ := hcut
      have hK3 : KTab wc := Tab.below HK.out hBc (Tab.lt HK.out)
      have h0 := HB0.out.below hBc HB0.out.lt
      have h1 := HB1.out.below hBc HB1.out.lt
      have hp5 := HBP.out.below hBc HBP.out.lt
      have hp5' := HBP.out.lt
      have hB2 : Below w.heap.size w wc := hBB.trans (hBc.mono (by omega))
      clear HB0 HB1 HBP HK hBB hBc hlt
      obtain ⟨tk, frk, hK3⟩ := hK3
      go_wp2_with (refine wpList_load_row rfl 85 (.global 0) rfl 0 rfl tk (u32s kc).toArray frk _ hK3 Tryd.underlying85 rfl (by kernel_rfl) ?_)
      go_loopw [22] (fun i wr => ∃ t : Nat, t ≤ 64 ∧ i = .int .i64 t ∧ Blk wr p6 87 (u32s [(rounds_ l ⟨sa, sb, sc, sd, se, sf, sg, sh⟩ t).a, (rounds_ l ⟨sa, sb, sc, sd, se, sf, sg, sh⟩ t).b, (rounds_ l ⟨sa, sb, sc, sd, se, sf, sg, sh⟩ t).c, (rounds_ l ⟨sa, sb, sc, sd, se, sf, sg, sh⟩ t).d]) ∧
          Blk wr p7 87 (u32s [(rounds_ l ⟨sa, sb, sc, sd, se, sf, sg, sh⟩ t).e, (rounds_ l ⟨sa, sb, sc, sd, se, sf, sg, sh⟩ t).f, (rounds_ l ⟨sa, sb, sc, sd, se, sf, sg, sh⟩ t).g, (rounds_ l ⟨sa, sb, sc, sd, se, sf, sg, sh⟩ t).h]) ∧ Below wb.heap.size wc wr)
        (fun i _ => 64 - (intOf i).toNat)
      case atStart => exact ⟨0, by omega, rfl, hv, he, Below.refl _ _⟩
      case round =>
        obtain ⟨t, ht, rfl, hv2, he2, hBr⟩ := hrel
        by_cases hlt : t < 64
        · have hw := (hBr.cell (p := ⟨p, t, none⟩) hp5').trans ((hp5.cell t).trans (u32s_get _ t (by rw [wl_length]; exact hlt)))
          have HS : Hid (rounds_ l ⟨sa, sb, sc, sd, se, sf, sg, sh⟩ (t + 1) = stepI (rounds_ l ⟨sa, sb, sc, sd, se, sf, sg, sh⟩ t) (kc.getD t 0) ((wl l 64).getD t 0)) := Lib.hid rfl
          have hk := index_kc t hlt
          generalize (wl l 64).getD t 0 = wt at *
          generalize kc.getD t 0 = kt at *
          generalize rounds_ l ⟨sa, sb, sc, sd, se, sf, sg, sh⟩ t = st at *
          obtain ⟨a, b, c', d, e, f, g', hh⟩ := st
          simp only at hv2 he2
          have v0 := hv2.cell 0
          have v1 := hv2.cell 1
          have v2 := hv2.cell 2
          have v3 := hv2.cell 3
          have e0 := he2.cell 0
          have e1 := he2.cell 1
          have e2 := he2.cell 2
          have e3 := he2.cell 3
          simp only [u32s, List.map_cons, List.map_nil, List.getElem?_cons_zero, List.getElem?_cons_succ] at v0 v1 v2 v3 e0 e1 e2 e3
          have HV := Lib.hid hv2; have HE := Lib.hid he2
          clear hv2 he2 h0 h1 hp5 hK3
          obtain ⟨wd, rfl⟩ : ∃ x : World, x = wc := ⟨_, rfl⟩
          go_upto_region 6 with (fail)
          go_cut [10] (fun s10 wx => s10 = .int .u32 (xOf e f g' hh kt wt) ∧ Drew wr wx)
          case first =>
            go_quiet ((go_at_call 42; exact Calls.quiet_of_same (mix_any' _ _ _ _ _ (by decide) (by decide) (by decide) (by decide) (by decide) (by decide))))
            go_wp2_with fail
            go_meet
            case rel => exact ⟨rfl, Drew.mk _ _⟩
          case rest =>
            obtain ⟨rfl, hd1⟩ := hcut
            obtain ⟨w8, rfl⟩ : ∃ x : World, x = wc := ⟨_, rfl⟩
            rw [← hd1.cell] at v0 v1 v2 v3 e0 e1 e2 e3 hw
            generalize hx : xOf e f g' hh kt wt = x at *
            have HX := Lib.hid hx; clear hx
            go_upto_region 7 with (fail)
            go_cut [11] (fun s11 wx => s11 = .int .u32 (yOf a b c') ∧ Drew w8 wx)
            case first =>
              go_quiet ((go_at_call 42; exact Calls.quiet_of_same (mix_any' _ _ _ _ _ (by decide) (by decide) (by decide) (by decide) (by decide) (by decide))))
              go_wp2_with fail
              go_meet
              case rel => exact ⟨rfl, Drew.mk _ _⟩
            case rest =>
              obtain ⟨rfl, hd2⟩ := hcut
              rw [← hd2.cell] at v0 v1 v2 v3 e0 e1 e2 e3
              generalize hy : yOf a b c' = y at *
              have HY := Lib.hid hy; clear hy
              have HV2 := Lib.hid (hd2.blk (hd1.blk HV.out))
              have HE2 := Lib.hid (hd2.blk (hd1.blk HE.out))
              have HBr : Hid (Below wb.heap.size wd wc) := Lib.hid ((hBr.trans (hd1.below _)).trans (hd2.below _))
              have f0 := HE2.out.frozen 0
              have f1 := HE2.out.frozen 1
              have f2 := HE2.out.frozen 2
              have f3 := HE2.out.frozen 3
              have g0 := HV2.out.frozen 0
              have g1 := HV2.out.frozen 1
              have g2 := HV2.out.frozen 2
              have g3 := HV2.out.frozen 3
              have h76 := Ne.symm h67
              clear hd1 hd2 hBr HV HE hv he hw
              go_wp2_with fail
              go_roundw
              case rel =>
                refine ⟨t + 1, by omega, by go_num, ?_, ?_, ?_⟩
                · rw [HS.out]
                  simp only [stepI]
                  rw [HX.out, HY.out]
                  refine (Blk.set (Blk.set (Blk.set (Blk.set (Blk.far (Blk.far (Blk.far (Blk.far HV2.out ?_ _) ?_ _) ?_ _) ?_ _) 0 _) 1 _) 2 _) 3 _) <;> exact h67
                · rw [HS.out]
                  simp only [stepI]
                  rw [HX.out]
                  refine (Blk.far (Blk.far (Blk.far (Blk.far (Blk.set (Blk.set (Blk.set (Blk.set HE2.out 0 _) 1 _) 2 _) 3 _) ?_ _) ?_ _) ?_ _) ?_ _) <;> exact h76
                · refine (((((((HBr.out.setCell ?_ _).setCell ?_ _).setCell ?_ _).setCell ?_ _).setCell ?_ _).setCell ?_ _).setCell ?_ _).setCell ?_ _ <;> assumption
              case measure => simp [intOf]; omega
        · obtain rfl : t = 64 := by omega
          have hr0 := h0.below hBr (by omega)
          have hr1 := h1.below hBr (by omega)
          have hB3 := hB2.trans (hBr.mono (by omega))
          clear h0 h1 hp5 hK3 hBr hB2 hv he
          generalize hst : rounds_ l ⟨sa, sb, sc, sd, se, sf, sg, sh⟩ 64 = st at *
          have HST := Lib.hid hst; clear hst
          obtain ⟨a, b, c', d, e, f, g', hh⟩ := st
          simp only at hv2 he2
          obtain ⟨wd, rfl⟩ : ∃ x : World, x = wc := ⟨_, rfl⟩
          obtain ⟨wo, rfl⟩ : ∃ x : World, x = wr := ⟨_, rfl⟩
          have hlt6 : w.heap.size < p6 := by omega
          have hlt7 : w.heap.size < p7 := by omega
          go_wp2_with fail
          go_loopw [94] (fun i wr => ∃ t : Nat, t ≤ 4 ∧ i = .int .i64 t ∧ Blk wr w.heap.size 71 (u32s (fin2 [sa, sb, sc, sd, se, sf, sg, sh] [a, b, c', d, e, f, g', hh] t)) ∧ Blk wr (w.heap.size + 1) 71 (u32s [0, 0, 0, 0, 0, 0, 0, 0]) ∧
              Blk wr p6 87 (u32s [a, b, c', d]) ∧ Blk wr p7 87 (u32s [e, f, g', hh]) ∧ Below w.heap.size w wr)
            (fun i _ => 4 - (intOf i).toNat)
          case atStart => exact ⟨0, by omega, rfl, hr0, hr1, hv2, he2, hB3⟩
          case round =>
            clear hr0 hr1 hv2 he2 hB3
            obtain ⟨t, ht, rfl, hr0, hr1, hv2, he2, hB3⟩ := hrel
            by_cases hlt : t < 4
            · have c0 := (hr0.cell t).trans ((u32s_get _ t (by rw [fin2_len]; omega)).trans (by rw [fin2_get _ _ _ _ (by omega), if_neg (by omega)]))
              have c4 := (hr0.cell (t + 4)).trans ((u32s_get _ (t + 4) (by rw [fin2_len]; omega)).trans (by rw [fin2_get _ _ _ _ (by omega), if_neg (by omega)]))
              have v0 := (hv2.cell t).trans (u32s_get _ t hlt)
              have e0 := (he2.cell t).trans (u32s_get _ t hlt)
              have f0 := hr0.frozen t
              have f4 := hr0.frozen (t + 4)
              have HN := Lib.hid (fin2_succ [sa, sb, sc, sd, se, sf, sg, sh] [a, b, c', d, e, f, g', hh] t hlt)
              have hv : [a, b, c', d, e, f, g', hh].getD t 0 = [a, b, c', d].getD t 0 := by
                match t, hlt with
                | 0, _ => rfl
                | 1, _ => rfl
                | 2, _ => rfl
                | 3, _ => rfl
              have he : [a, b, c', d, e, f, g', hh].getD (t + 4) 0 = [e, f, g', hh].getD t 0 := by
                match t, hlt with
                | 0, _ => rfl
                | 1, _ => rfl
                | 2, _ => rfl
                | 3, _ => rfl
              rw [hv, he] at HN
              clear hv he
              have HR0 := Lib.hid hr0; have HR1 := Lib.hid hr1; have HV := Lib.hid hv2; have HE := Lib.hid he2
              clear hr0 hr1 hv2 he2
              generalize [sa, sb, sc, sd, se, sf, sg, sh].getD t 0 = x0 at *
              generalize [sa, sb, sc, sd, se, sf, sg, sh].getD (t + 4) 0 = x4 at *
              generalize [a, b, c', d].getD t 0 = y0 at *
              generalize [e, f, g', hh].getD t 0 = y4 at *
              go_upto_region 14 with (fail)
              go_region
              go_upto_region 15 with (fail)
              go_region
              go_wp2_with fail
              go_roundw
              case rel =>
                refine ⟨t + 1, by omega, by go_num, ?_, ?_, ?_, ?_, ?_⟩
                · rw [← HN.out _ _ rfl rfl]
                  exact ((HR0.out.set t _).set (t + 4) _).drew.drew
                · exact ((HR1.out.far (by simp) _).far (by simp) _).drew.drew
                · exact ((HV.out.far (by simp; omega) _).far (by simp; omega) _).drew.drew
                · exact ((HE.out.far (by simp; omega) _).far (by simp; omega) _).drew.drew
                · exact ((hB3.setCell (by simp) _).setCell (by simp) _).drew.drew
              case measure => simp [intOf]; omega
            · obtain rfl : t = 4 := by omega
              clear hv2 he2
              have hfin : compI ⟨sa, sb, sc, sd, se, sf, sg, sh⟩ l = addSt ⟨sa, sb, sc, sd, se, sf, sg, sh⟩ ⟨a, b, c', d, e, f, g', hh⟩ := by unfold compI; rw [HST.out]
              have hfin2 : fin2 [sa, sb, sc, sd, se, sf, sg, sh] [a, b, c', d, e, f, g', hh] 4 = (compI ⟨sa, sb, sc, sd, se, sf, sg, sh⟩ l).list := by rw [hfin]; rfl
              rw [hfin2] at hr0
              clear hfin hfin2
              generalize hres : (compI ⟨sa, sb, sc, sd, se, sf, sg, sh⟩ l) = res at hr0
              have hs : (u32s res.list).toArray.size = 8 := rfl
              have hone : (u32s res.list).toArray.all (·.oneCell') = true := by simp [u32s, St.list, Value.oneCell']
              have HL := Lib.hid hres; clear hres
              generalize hL : u32s res.list = L at hr0 hs hone
              have HLL := Lib.hid hL; clear hL
              go_wp2_with (first
                | refine wpList_load_row rfl 71 (.tmp 2) rfl w.heap.size rfl 71 _ (0, 0) _ hr0 Tryd.underlying71 rfl (info_8u32.trans (congrArg some hs.symm)) ?_
                | refine wpList_store_row rfl 71 (.tmp 4) (.tmp 115) rfl (w.heap.size + 1) _ rfl rfl 71 _ hr1 (info_8u32.trans (congrArg some hs.symm)) hs.symm hone ?_)
              exact bodyPost_ret (results_cell_row Tryd.results40 _ _ (w.heap.size + 1) 71 _ (0, 0) _ rfl (hr1.setRow L) Tryd.underlying71 rfl (info_8u32.trans (congrArg some hs.symm))) rfl ⟨by rw [HL.out, HLL.out], below_row hB3 (by omega) _⟩
end Go.Proofs.YtkjckmdiolgmcaaDoor
