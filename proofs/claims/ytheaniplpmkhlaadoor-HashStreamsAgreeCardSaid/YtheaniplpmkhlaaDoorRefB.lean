/- The walk of the reference's Sum: it hands back SHA-256. No condition. -/
import Derived.Test.YtheaniplpmkhlaaDoorRefA
namespace Go.Proofs.YtheaniplpmkhlaaDoor
open Go.RowKit
/-- The reference's table of the round constants lies in block 0. -/
def RTab (w : World) : Prop := Tab w 0 (u32s kc)
theorem not_eq (e : Int) : bits .xor .u32 e 4294967295 = not32 e := by
  show IntKind.u32.wrap ((BitVec.ofInt 32 e ^^^ BitVec.ofInt 32 4294967295).toNat : Int) = IntKind.u32.wrap ((BitVec.ofInt 32 IntKind.u32.max ^^^ BitVec.ofInt 32 e).toNat : Int)
  rw [BitVec.xor_comm]
  rfl
theorem pad_mult (n : Nat) : (n + (padOf n).length) % 64 = 0 := by
  simp [padOf, be64]; omega
theorem pad_pos (n : Nat) : 0 < n + (padOf n).length := by simp [padOf]; omega
theorem cell_set_far {w : World} {p q : Addr} (u : Value) (h : q.block ≠ p.block) : (w.setCell p u).cell? q = w.cell? q :=
  World.cell?_of_block (heap_setCell_other w p q.block u h)
set_option maxHeartbeats 1600000 in
set_option maxRecDepth 100000 in
theorem rsum_any (l : List Int) (A : Option Addr) (n c : Nat) (w : World) (hl : Rd w w.heap.size A n (u8s l)) (hb : Byt l) (hn : n ≤ 1000000000000) (hK : RTab w) :
    Calls Tryd.prog 12 #[.slice A n c] w fun e w' => e = .returned (.agg (u8s (sha l)).toArray) ∧ Below w.heap.size w w' := by
  have HLEN : Hid (l.length = n) := Lib.hid (by simpa [u8s] using hl.1)
  have HL := Lib.hid hl
  clear hl
  go_enter Tryd.func12, Tryd.ntmps12
  go_wp2_with fail
  with_reducible refine (padded_any l A n c _ (((HL.out.alloc (Nat.le_refl _) _).alloc (by simp) _).more (by simp; omega)) hn).mono ?_
  rintro e w1 ⟨⟨A1, c1, rfl, hown⟩, hB1⟩
  obtain ⟨g1, cc, hv, hg1, hg1'⟩ := hown.form (pad_pos n)
  injection hv with hA1 _ hcc
  subst hA1
  have hz : w.heap.size + 2 ≤ w1.heap.size := by have := hB1.size; simpa using this
  have hb0 : Blk w1 w.heap.size 24 (u8s (List.replicate 32 0)) := ((Blk.fresh' _ _ _ _ _ rfl rfl).alloc _).below hB1 (by simp; omega)
  have hb1 : Blk w1 (w.heap.size + 1) 30 (u32s initSt.list) := (Blk.fresh' _ _ _ _ _ rfl (by simp)).below hB1 (by simp)
  have hB : Below w.heap.size w w1 := (((Below.refl _ _).alloc (Nat.le_refl _) _).alloc (by simp) _).trans (hB1.mono (by simp; omega))
  have hm : ∀ j, j < n + (padOf n).length → w1.cell? ⟨g1, j, none⟩ = some (.int .u8 ((l ++ padOf n).getD j 0)) := fun j hj => by
    rw [hown.cellAt j (by omega), u8s_get _ _ (by have := hown.1; rw [u8s_length] at this; omega)]
  have hmb : Byt (l ++ padOf n) := hb.app (padOf_byt n)
  have hmult := pad_mult n
  have hml : (l ++ padOf n).length = n + (padOf n).length := by rw [List.length_append, HLEN.out]
  have hNb : n + (padOf n).length ≤ 1000000000072 := by have := padOf_len n; omega
  have HFIN : Hid (outI (blocksI ((n + (padOf n).length) / 64) (l ++ padOf n) initSt) = sha l) := Lib.hid (by unfold sha hst; rw [HLEN.out, hml])
  have hcap : n + (padOf n).length ≤ c1 := by
    rcases hown.2 with ⟨h, _⟩ | ⟨_, _, _, h, _, _, h2, _⟩
    · injection h with h1; cases h1
    · injection h with _ _ h3; omega
  clear hown hB1 HLEN HL hcc hb
  generalize n + (padOf n).length = N at *
  generalize l ++ padOf n = M at *
  have HM := Lib.hid hm; have HML := Lib.hid hml; have HK := Lib.hid hK
  clear hm hml hK
  obtain ⟨K, hKN⟩ : ∃ K, N = 64 * K := ⟨N / 64, by omega⟩
  have HKN := Lib.hid hKN
  clear hmult hKN
  go_wp2_with fail
  have HB1x : Hid (Below w1.heap.size w1 w1) := Lib.hid (Below.refl _ _)
  go_loopw [5] (fun i wr => ∃ k : Nat, k ≤ K ∧ i = .int .i64 ((64 * k : Nat) : Int) ∧ Blk wr (w.heap.size + 1) 30 (u32s (blocksI k M initSt).list) ∧ Blk wr w.heap.size 24 (u8s (List.replicate 32 0)) ∧ Below w.heap.size w wr ∧ (∀ j, j < N → wr.cell? ⟨g1, j, none⟩ = some (.int .u8 (M.getD j 0))) ∧ g1 < wr.heap.size)
    (fun i _ => N - (intOf i).toNat)
  case atStart => exact ⟨0, Nat.zero_le _, rfl, hb1, hb0, hB, HM.out, hg1'⟩
  case round =>
    clear hb1 hb0 hB HM
    obtain ⟨k, hk, rfl, hb1, hb0, hB, hm, hg1'⟩ := hrel
    have HB1 := Lib.hid hb1; have HB0 := Lib.hid hb0; have HM := Lib.hid hm
    clear hb1 hb0 hm HB1x
    have hKN2 := HKN.out
    obtain ⟨at_, hat⟩ : ∃ a, a = 64 * k := ⟨_, rfl⟩
    rw [← hat]
    by_cases hlt : k < K
    · have hat2 : at_ + 64 ≤ N := by omega
      have HAT := Lib.hid hat
      clear hat hKN2
      have hlt2 : (at_ : Int) < (N : Int) := by omega
      go_upto_region 6 with (fail)
      obtain ⟨wd, rfl⟩ : ∃ x : World, x = wr := ⟨_, rfl⟩
      obtain ⟨bl, hbl⟩ : ∃ b, b = (M.drop at_).take 64 := ⟨_, rfl⟩
      have hbll : bl.length = 64 := by rw [hbl, List.length_take, List.length_drop, HML.out]; omega
      have hblb : Byt bl := by rw [hbl]; exact (hmb.drop _).take _
      have hrd : Rd wd wd.heap.size (some ⟨g1, at_, none⟩) 64 (u8s bl) := by
        refine ⟨by rw [u8s_length, hbll], fun _ => ⟨g1, at_, rfl, hg1', fun j u hu => ?_⟩⟩
        have hj : j < 64 := by
          have := (List.getElem?_eq_some_iff.1 hu).1
          rw [u8s_length, hbll] at this; exact this
        rw [HM.out (at_ + j) (by omega)]
        rw [u8s_get _ _ (by rw [hbll]; exact hj)] at hu
        rw [← hu, hbl]
        congr 2
        rw [List.getD_eq_getElem?_getD, List.getD_eq_getElem?_getD, List.getElem?_take_of_lt hj, List.getElem?_drop]
      have HBL := Lib.hid hbl; have HBLL := Lib.hid hbll; have HRD := Lib.hid hrd
      clear hbl hbll hrd
      go_cut [6] (fun s6 wx => ∃ p6, s6 = .pointer (some ⟨p6, 0, none⟩) ∧ wd.heap.size ≤ p6 ∧ Blk wx p6 54 (u32s (wl bl 64)) ∧ Below wd.heap.size wd wx)
      case first =>
        go_wp2_with fail
        have e64 : at_ + 64 - at_ = 64 := by omega
        rw [e64]
        with_reducible refine (words_any bl (some ⟨g1, at_, none⟩) _ wd HRD.out hblb).mono ?_
        rintro e w2 ⟨rfl, hB2⟩
        have hs : (u32s (wl bl 64)).toArray.size = 64 := by simp [u32s, wl_length]
        have hone : (u32s (wl bl 64)).toArray.all (·.oneCell') = true := by simp [u32s, Value.oneCell']
        have hz2 := hB2.size
        have HS := Lib.hid hs; have HO := Lib.hid hone
        clear hs hone e64
        generalize u32s (wl bl 64) = WL at *
        go_wp2_with (refine wpList_store_row rfl 54 (.tmp 6) (.tmp 34) rfl w2.heap.size _ rfl rfl 54 _ (heap_alloc_new _ _) (info_64u32.trans (congrArg some HS.out.symm)) HS.out.symm HO.out ?_)
        go_meet
        case rel => exact ⟨_, rfl, hz2, Blk.setRow (Blk.fresh' _ _ (u32s (List.replicate 64 0)) _ _ rfl rfl) _, below_row (hB2.alloc hz2 _) hz2 _⟩
      case rest =>
        obtain ⟨p6, rfl, hp6, hw6, hB6⟩ := hcut
        have hst0 : Blk wc (w.heap.size + 1) 30 (u32s (blocksI k M initSt).list) := HB1.out.below hB6 HB1.out.lt
        have hK6 : RTab wc := Tab.below (Tab.below HK.out hB (Tab.lt HK.out)) hB6 (Tab.lt (Tab.below HK.out hB (Tab.lt HK.out)))
        have HCMP : Hid (blocksI (k + 1) M initSt = compI (blocksI k M initSt) bl) := Lib.hid (by rw [blocksI_succ, HBL.out, HAT.out])
        generalize blocksI k M initSt = st at *
        obtain ⟨sa, sb, sc, sd, se, sf, sg, sh⟩ := st
        have s0 := hst0.cell 0
        have s1 := hst0.cell 1
        have s2 := hst0.cell 2
        have s3 := hst0.cell 3
        have s4 := hst0.cell 4
        have s5 := hst0.cell 5
        have s6 := hst0.cell 6
        have s7 := hst0.cell 7
        simp only [u32s, St.list, List.map_cons, List.map_nil, List.getElem?_cons_zero, List.getElem?_cons_succ] at s0 s1 s2 s3 s4 s5 s6 s7
        have HST := Lib.hid hst0; have HK6 := Lib.hid hK6; have HW6 := Lib.hid hw6; have HB6 := Lib.hid hB6
        clear hst0 hK6 hw6 hB6 HRD
        obtain ⟨we, rfl⟩ : ∃ x : World, x = wc := ⟨_, rfl⟩
        go_wp2_with fail
        go_quiet (fail)
        go_wp2_with fail
        go_loopw [15, 7, 8, 9, 10, 11, 12, 13, 14] (fun i v7 v8 v9 v10 v11 v12 v13 v14 wr => ∃ (t : Nat) (r : St), t ≤ 64 ∧ r = rounds_ bl ⟨sa, sb, sc, sd, se, sf, sg, sh⟩ t ∧ i = .int .i64 t ∧ v7 = .int .u32 r.a ∧ v8 = .int .u32 r.b ∧ v9 = .int .u32 r.c ∧ v10 = .int .u32 r.d ∧ v11 = .int .u32 r.e ∧ v12 = .int .u32 r.f ∧ v13 = .int .u32 r.g ∧ v14 = .int .u32 r.h ∧ Drew we wr)
          (fun i _ _ _ _ _ _ _ _ _ => 64 - (intOf i).toNat)
        case atStart => exact ⟨0, _, by omega, rfl, rfl, rfl, rfl, rfl, rfl, rfl, rfl, rfl, rfl, Drew.mk _ _⟩
        case round =>
          obtain ⟨t, r, ht, hr, rfl, rfl, rfl, rfl, rfl, rfl, rfl, rfl, rfl, hd⟩ := hrel
          have HR := Lib.hid hr
          clear hr s0 s1 s2 s3 s4 s5 s6 s7
          by_cases hlt3 : t < 64
          · have kt : wr.cell? ⟨0, t, none⟩ = some (.int .u32 (kc.getD t 0)) := (hd.cell _).trans ((Tab.cell HK6.out t).trans (u32s_get kc t hlt3))
            have wt : wr.cell? ⟨p6, t, none⟩ = some (.int .u32 ((wl bl 64).getD t 0)) := (hd.cell _).trans ((HW6.out.cell t).trans (u32s_get _ t (by rw [wl_length]; exact hlt3)))
            have HN : Hid (rounds_ bl ⟨sa, sb, sc, sd, se, sf, sg, sh⟩ (t + 1) = stepI r (kc.getD t 0) ((wl bl 64).getD t 0)) := Lib.hid (by rw [HR.out]; rfl)
            generalize kc.getD t 0 = kx at *
            generalize (wl bl 64).getD t 0 = wx at *
            obtain ⟨a, b, c', d, e, f, g', h'⟩ := r
            simp only
            obtain ⟨wq, rfl⟩ : ∃ x : World, x = wr := ⟨_, rfl⟩
            go_upto_region 11 with (fail)
            go_cut [16] (fun s16 wz => s16 = .int .u32 (xOf e f g' h' kx wx) ∧ Drew wq wz)
            case first =>
              have hne := not_eq e
              go_quiet ((go_at_call 29; exact Calls.quiet_of (rotr_any _ _ _ (by decide) (by decide))))
              go_wp2_with fail
              go_meet
              case rel =>
                refine ⟨?_, Drew.mk _ _⟩
                rw [Int.emod_add_emod]
                rfl
            case rest =>
              obtain ⟨rfl, hd2⟩ := hcut
              generalize hx : xOf e f g' h' kx wx = x at *
              have HX := Lib.hid hx; clear hx
              obtain ⟨wz, rfl⟩ : ∃ x : World, x = wc := ⟨_, rfl⟩
              go_wp2_with fail
              with_reducible refine (rotr_any a 2 _ (by decide) (by decide)).mono ?_
              rintro e1 w1 ⟨rfl, n1, rfl⟩
              go_wp2_with fail
              with_reducible refine (rotr_any a 13 _ (by decide) (by decide)).mono ?_
              rintro e1 w1 ⟨rfl, n2, rfl⟩
              go_wp2_with fail
              with_reducible refine (rotr_any a 22 _ (by decide) (by decide)).mono ?_
              rintro e1 w1 ⟨rfl, n3, rfl⟩
              go_wp2_with fail
              go_roundw
              case rel =>
                exact ⟨t + 1, _, by omega, HN.out.symm, by go_num, by simp only [stepI]; rw [HX.out]; rfl, rfl, rfl, rfl, by simp only [stepI]; rw [HX.out], rfl, rfl, rfl, (hd.trans hd2).trans (Drew.mk _ _)⟩
              case measure => simp [intOf]; omega
          · obtain rfl : t = 64 := by omega
            have HADD : Hid (compI ⟨sa, sb, sc, sd, se, sf, sg, sh⟩ bl = addSt ⟨sa, sb, sc, sd, se, sf, sg, sh⟩ r) := Lib.hid (by unfold compI; rw [HR.out])
            obtain ⟨a, b, c', d, e, f, g', h'⟩ := r
            simp only
            have hst := hd.blk HST.out
            have s0 := hst.cell 0
            have s1 := hst.cell 1
            have s2 := hst.cell 2
            have s3 := hst.cell 3
            have s4 := hst.cell 4
            have s5 := hst.cell 5
            have s6 := hst.cell 6
            have s7 := hst.cell 7
            have f0 := hst.frozen 0
            have f1 := hst.frozen 1
            have f2 := hst.frozen 2
            have f3 := hst.frozen 3
            have f4 := hst.frozen 4
            have f5 := hst.frozen 5
            have f6 := hst.frozen 6
            have f7 := hst.frozen 7
            simp only [u32s, St.list, List.map_cons, List.map_nil, List.getElem?_cons_zero, List.getElem?_cons_succ] at s0 s1 s2 s3 s4 s5 s6 s7
            have HST2 := Lib.hid hst
            clear hst
            have hlen : at_ + 64 ≤ 1000000000072 := by omega
            go_wp2_with fail
            go_roundw
            case rel =>
              have hBw : Below wd.heap.size wd wr := HB6.out.trans (hd.below _)
              have h0 := HB0.out.below hBw HB0.out.lt
              refine ⟨k + 1, by omega, by have := HAT.out; go_num, ?_, ?_, ?_, ?_, ?_⟩
              · rw [HCMP.out, HADD.out]
                exact (((((((HST2.out.set 0 _).set 1 _).set 2 _).set 3 _).set 4 _).set 5 _).set 6 _).set 7 _
              · refine (((((((h0.far ?_ _).far ?_ _).far ?_ _).far ?_ _).far ?_ _).far ?_ _).far ?_ _).far ?_ _ <;> simp
              · refine ((((((((hB.trans (hBw.mono hB.size)).setCell ?_ _).setCell ?_ _).setCell ?_ _).setCell ?_ _).setCell ?_ _).setCell ?_ _).setCell ?_ _).setCell ?_ _ <;> simp
              · intro j hj
                have hne : g1 ≠ w.heap.size + 1 := by simp at hg1; omega
                rw [cell_set_far _ hne, cell_set_far _ hne, cell_set_far _ hne, cell_set_far _ hne, cell_set_far _ hne, cell_set_far _ hne, cell_set_far _ hne, cell_set_far _ hne]
                exact (hBw.cell (p := ⟨g1, j, none⟩) hg1').trans (HM.out j hj)
              · have := hBw.size
                simp [World.setCell]; omega
            case measure => simp [intOf]; omega
    · obtain rfl : k = K := by omega
      have hat3 : at_ = N := by omega
      have HFN : Hid (outI (blocksI k M initSt) = sha l) := Lib.hid (by rw [← HFIN.out, show N / 64 = k from by omega])
      have hge : (N : Int) ≤ (at_ : Int) := by omega
      clear hat hKN2 hat3 HFIN HML HKN
      generalize blocksI k M initSt = st at *
      obtain ⟨wq, rfl⟩ : ∃ x : World, x = wr := ⟨_, rfl⟩
      have hb5 := HB1.out
      have hb1' := HB0.out
      have hq5 : w.heap.size + 1 < wq.heap.size := hb5.lt
      go_wp2_with fail
      go_loopw [19] (fun i wr => ∃ t : Nat, t ≤ 32 ∧ i = .int .i64 t ∧ Blk wr wq.heap.size 24 (u8s ((outI st).take t ++ List.replicate (32 - t) 0)) ∧ Blk wr (w.heap.size + 1) 30 (u32s st.list) ∧ Blk wr w.heap.size 24 (u8s (List.replicate 32 0)) ∧ Below w.heap.size w wr)
        (fun i _ => 32 - (intOf i).toNat)
      case atStart => exact ⟨0, by omega, rfl, Blk.fresh' _ _ _ _ _ rfl rfl, hb5.alloc _, hb1'.alloc _, hB.alloc (by omega) _⟩
      case round =>
        clear hb5 hb1' hB
        obtain ⟨t, ht, rfl, hbo, hb5, hb1, hB⟩ := hrel
        by_cases hlt4 : t < 32
        · have c0 := (hb5.cell (t / 4)).trans (u32s_get _ (t / 4) (by simp [St.list]; omega))
          have fz := hbo.frozen t
          have co := hbo.cell t
          have hol : (outI st).length = 32 := by simp [outI]
          rw [show (u8s ((outI st).take t ++ List.replicate (32 - t) 0))[t]? = some (.int .u8 0) from by
            rw [u8s_get _ _ (by simp [hol]; omega), List.getD_eq_getElem?_getD, List.getElem?_append_right (by simp [hol]; omega)]
            simp [hol, List.getElem?_replicate]
            split <;> rfl] at co
          have HO := Lib.hid (out_succ st t hlt4)
          have HBO := Lib.hid hbo; have HB5 := Lib.hid hb5; have HBB1 := Lib.hid hb1
          clear hbo hb5 hb1 hol
          generalize st.list.getD (t / 4) 0 = x at *
          obtain ⟨q, hq⟩ : ∃ q, q = t % 4 := ⟨_, rfl⟩
          rw [← hq] at HO
          have hm4 : ((t : Int) % 4) = (q : Int) := by omega
          have hm4b : q < 4 := by omega
          have HQ := Lib.hid hq
          clear hq
          go_wp2_with fail
          go_roundw
          case rel =>
            refine ⟨t + 1, by omega, by go_num, ?_, HB5.out.far (by simp; omega) _, HBB1.out.far (by simp; omega) _, hB.setCell (by simp; omega) _⟩
            rw [← HO.out _ rfl]
            exact HBO.out.set t _
          case measure => simp [intOf]; omega
        · obtain rfl : t = 32 := by omega
          have hol : (outI st).length = 32 := by simp [outI]
          have he : (outI st).take 32 ++ List.replicate (32 - 32) 0 = sha l := by
            rw [List.take_of_length_le (by omega), HFN.out]; simp
          rw [he] at hbo
          have hs32 : (u8s (sha l)).toArray.size = 32 := by simp [u8s, sha_length]
          have ho32 : (u8s (sha l)).toArray.all (·.oneCell') = true := by simp [u8s, Value.oneCell']
          have HS32 := Lib.hid hs32; have HO32 := Lib.hid ho32
          clear hs32 ho32 he hol HFN
          generalize hout : u8s (sha l) = out at *
          have HOUT := Lib.hid hout; clear hout
          go_wp2_with (first
            | refine wpList_load_row rfl 24 (.tmp 18) rfl wq.heap.size rfl 24 _ (0, 0) _ hbo Tryd.underlying24 rfl (info_32u8.trans (congrArg some HS32.out.symm)) ?_
            | refine wpList_store_row rfl 24 (.tmp 2) (.tmp 163) rfl w.heap.size _ rfl rfl 24 _ hb1 (info_32u8.trans (congrArg some HS32.out.symm)) (zero32_len.trans HS32.out.symm) HO32.out ?_)
          exact bodyPost_ret (results_cell_row Tryd.results12 _ _ w.heap.size 24 _ (0, 0) _ rfl (hb1.setRow out) Tryd.underlying24 rfl (info_32u8.trans (congrArg some HS32.out.symm))) rfl ⟨by rw [HOUT.out], below_row hB (Nat.le_refl _) _⟩
end Go.Proofs.YtheaniplpmkhlaaDoor
