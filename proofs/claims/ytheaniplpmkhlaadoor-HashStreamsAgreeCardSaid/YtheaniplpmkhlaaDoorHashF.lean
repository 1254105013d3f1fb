/- The walks of the reference's Short and Of. No condition. -/
import Derived.Test.YtheaniplpmkhlaaDoorHashE
namespace Go.Proofs.YtheaniplpmkhlaaDoor
open Go.RowKit
theorem RTab.below {w w' : World} (h : RTab w) (hb : Below w.heap.size w w') : RTab w' := Tab.below h hb (Tab.lt h)
theorem KTab.below {w w' : World} (h : KTab w) (hb : Below w.heap.size w w') : KTab w' := Tab.below h hb (Tab.lt h)
theorem KTab.drew {w : World} (h : KTab w) : KTab w.drew := h
theorem KTab.alloc {w : World} (h : KTab w) (o : Obj) : KTab (w.alloc o) := Tab.alloc h o
theorem info_16u8 : (Tryd.prog.info? 44).map (·.size) = some 16 := by kernel_rfl
theorem u8s_all (l : List Int) : (u8s l).toArray.all (·.oneCell') = true := Array.all_eq_true'.2 (fun v hv => u8s_one l v (by simpa using hv))
theorem zero16_len : (u8s (List.replicate 16 0)).toArray.size = 16 := rfl
theorem zero16_run (W : World) : (zeroValue 44).run Tryd.prog W = .ok (.agg (u8s (List.replicate 16 0)).toArray) W := by kernel_rfl
theorem build16_run (W : World) : (Instr.build 44 #[]).run Tryd.prog W = .ok (.agg (u8s (List.replicate 16 0)).toArray) W := by kernel_rfl
/-- The first 16 of l laid over zeros, one by one. -/
def upTo (l : List Int) (t : Nat) : List Int := l.take t ++ List.replicate (16 - t) 0
theorem upTo_set (l : List Int) (t : Nat) (h : t < 16) (hl : 16 ≤ l.length) : (u8s (upTo l t)).set t (.int .u8 (l.getD t 0)) = u8s (upTo l (t + 1)) := by
  have hx : l[t]? = some (l.getD t 0) := by simp [List.getD_eq_getElem?_getD, List.getElem?_eq_getElem (show t < l.length by omega)]
  have h16 : 16 - t = 16 - (t + 1) + 1 := by omega
  unfold upTo u8s
  rw [List.take_add_one, hx, h16, List.replicate_succ, ← List.map_set, List.set_append_right _ _ (by simp; omega)]
  simp [Nat.min_eq_left (show t ≤ l.length by omega)]
set_option maxHeartbeats 400000 in
set_option maxRecDepth 100000 in
theorem short_any (l : List Int) (A : Option Addr) (n c : Nat) (w : World) (hl : Rd w w.heap.size A n (u8s l)) (hb : Byt l) (hn : n ≤ 1000000000000) (hK : RTab w) :
    Calls Tryd.prog 34 #[.slice A n c] w fun e w' => e = .returned (.agg (u8s ((sha l).take 16)).toArray) ∧ Below w.heap.size w w' := by
  have HL := Lib.hid hl; have HK := Lib.hid hK
  clear hl hK
  obtain ⟨O, hO⟩ : ∃ O : List Int, O = sha l := ⟨_, rfl⟩
  have HOL : Hid (O.length = 32) := Lib.hid (by rw [hO, sha_length])
  have HO := Lib.hid hO
  clear hO
  go_enter Tryd.func34, Tryd.ntmps34
  go_wp2_with fail
  obtain ⟨w0, hw0⟩ : ∃ w0, w0 = w.alloc (.cells (u8s (List.replicate 16 0)).toArray 44) := ⟨_, rfl⟩
  have hbl : Blk w0 w.heap.size 44 (u8s (List.replicate 16 0)) := by rw [hw0]; exact Blk.fresh _ _ _
  have hB0 : Below w.heap.size w w0 := by rw [hw0]; exact (Below.refl _ _).alloc (Nat.le_refl _) _
  have hz0 : w.heap.size < w0.heap.size := hbl.lt
  change Calls _ _ _ (w.alloc (.cells (u8s (List.replicate 16 0)).toArray 44)) _
  rw [← hw0]
  clear hw0
  refine (rsum_any l A n c w0 ((HL.out.below' hB0 (Nat.le_refl _)).more (Nat.le_of_lt hz0)) hb hn (Tab.below HK.out hB0 (Tab.lt HK.out))).mono ?_
  rintro e w1 ⟨rfl, hB1⟩
  rw [← HO.out]
  have hone : (u8s O).toArray.all (·.oneCell') = true := by simp [u8s, Value.oneCell']
  have hsz : (u8s O).toArray.size = 32 := by simp [u8s, HOL.out]
  have hb1 := hB0.trans (hB1.mono (Nat.le_of_lt hz0))
  have hbl1 := hbl.below hB1 hz0
  have hz1 := hB1.size
  clear hbl hB1 hB0
  have HONE := Lib.hid hone; have HSZ := Lib.hid hsz; have HBL1 := Lib.hid hbl1
  clear hone hsz hbl1
  obtain ⟨V, hV⟩ : ∃ V, V = u8s O := ⟨_, rfl⟩
  rw [← hV] at HONE HSZ ⊢
  have HV := Lib.hid hV; clear hV
  go_wp2_with (refine wpList_store_row rfl 24 (.tmp 3) (.tmp 7) rfl w1.heap.size _ rfl rfl 24 _ (heap_alloc_new _ _) (info_32u8.trans (congrArg some HSZ.out.symm)) HSZ.out.symm HONE.out ?_)
  go_loopw [5] (fun i wr => ∃ t : Nat, t ≤ 16 ∧ i = .int .i64 t ∧ Blk wr w1.heap.size 24 V ∧ Blk wr (w1.heap.size + 1) 44 (u8s (upTo O t)) ∧ Blk wr w.heap.size 44 (u8s (List.replicate 16 0)) ∧ Below w.heap.size w wr)
    (fun i _ => 16 - (intOf i).toNat)
  case atStart =>
    have q0 : Blk (w1.alloc (.cells (u8s (List.replicate 32 0)).toArray 24)) w1.heap.size 24 (u8s (List.replicate 32 0)) := Blk.fresh _ _ _
    have q1 := q0.setRow V
    have q2 := ((HBL1.out.alloc (.cells (u8s (List.replicate 32 0)).toArray 24))).setRow_far (k := w1.heap.size) (by omega) V.toArray
    have q3 := below_row (hb1.alloc (by omega) (.cells (u8s (List.replicate 32 0)).toArray 24)) (g := w1.heap.size) (by omega) V.toArray
    refine ⟨0, by omega, rfl, q1.alloc _, Blk.fresh' _ _ (u8s (List.replicate 16 0)) _ _ rfl (by simp), q2.alloc _, q3.alloc (by simp; omega) _⟩
  case round =>
    obtain ⟨t, ht, rfl, hv, hd, h0, hB⟩ := hrel
    have HB1 := Lib.hid hv; have HB2 := Lib.hid hd; have HB3 := Lib.hid h0
    have hneq : w1.heap.size ≠ w.heap.size := by omega
    by_cases hlt : t < 16
    · have c0 := hv.cell t
      rw [HV.out, u8s_get _ t (by rw [HOL.out]; omega)] at c0
      have fz := hd.frozen t
      have cd := hd.cell t
      have hul : (upTo O t).length = 16 := by unfold upTo; simp [HOL.out]; omega
      rw [u8s_get _ t (by rw [hul]; exact hlt)] at cd
      have HS := Lib.hid (upTo_set O t hlt (by rw [HOL.out]; omega))
      clear hv hd h0 hul
      generalize O.getD t 0 = x at *
      generalize (upTo O t).getD t 0 = y at *
      go_wp2_with fail
      go_roundw
      case rel =>
        refine ⟨t + 1, by omega, by go_num, HB1.out.far (by simp) _, ?_, HB3.out.far (by simp; omega) _, hB.setCell (by simp; omega) _⟩
        rw [← HS.out]
        exact HB2.out.set t _
      case measure => simp [intOf]; omega
    · obtain rfl : t = 16 := by omega
      have he : upTo O 16 = (sha l).take 16 := by unfold upTo; rw [HO.out]; simp
      rw [he] at hd
      have hs16 : (u8s ((sha l).take 16)).toArray.size = 16 := by simp [u8s, sha_length]
      have ho16 : (u8s ((sha l).take 16)).toArray.all (·.oneCell') = true := u8s_all _
      have HS16 := Lib.hid hs16; have HO16 := Lib.hid ho16
      clear hs16 ho16 he HB2
      generalize hout : u8s ((sha l).take 16) = out at *
      have HOUT := Lib.hid hout; clear hout
      go_wp2_with (first
        | refine wpList_load_row rfl 44 (.tmp 4) rfl (w1.heap.size + 1) rfl 44 _ (0, 0) _ hd Tryd.underlying44 rfl (info_16u8.trans (congrArg some HS16.out.symm)) ?_
        | refine wpList_store_row rfl 44 (.tmp 2) (.tmp 18) rfl w.heap.size _ rfl rfl 44 _ h0 (info_16u8.trans (congrArg some HS16.out.symm)) (zero16_len.trans HS16.out.symm) HO16.out ?_)
      exact bodyPost_ret (results_cell_row Tryd.results34 _ _ w.heap.size 44 _ (0, 0) _ rfl (h0.setRow out) Tryd.underlying44 rfl (info_16u8.trans (congrArg some HS16.out.symm))) rfl ⟨by rw [HOUT.out], below_row hB (Nat.le_refl _) _⟩
set_option maxHeartbeats 400000 in
set_option maxRecDepth 100000 in
theorem rof_any (tag : Int) (l : List ByteArray) (A : Option Addr) (n c : Nat) (w : World) (hl : Rd w w.heap.size A n (strs l)) (hn : n ≤ 9223372036854775807) (hcat : (encs l).length ≤ 100000000000) (hK : RTab w) :
    Calls Tryd.prog 22 #[.int .i64 tag, .slice A n c] w fun e w' => e = .returned (.agg (u8s ((sha (inputB tag l)).take 16)).toArray) ∧ Below w.heap.size w w' := by
  have HL := Lib.hid hl; have HK := Lib.hid hK
  have HBY := Lib.hid (inputB_byt tag l (by omega))
  have hlen : (inputB tag l).length ≤ 1000000000000 := by simp only [inputB, List.length_cons]; omega
  obtain ⟨V, hV⟩ : ∃ V, V = u8s ((sha (inputB tag l)).take 16) := ⟨_, rfl⟩
  have HSZ : Hid (V.toArray.size = 16) := Lib.hid (by rw [hV]; simp [u8s, sha_length])
  have HONE : Hid (V.toArray.all (·.oneCell') = true) := Lib.hid (by rw [hV]; exact u8s_all _)
  have HV := Lib.hid hV
  clear hl hK hV
  go_enter Tryd.func22, Tryd.ntmps22
  go_wp2_with fail
  obtain ⟨w0, hw0⟩ : ∃ w0, w0 = w.alloc (.cells (u8s (List.replicate 16 0)).toArray 44) := ⟨_, rfl⟩
  have hbl : Blk w0 w.heap.size 44 (u8s (List.replicate 16 0)) := by rw [hw0]; exact Blk.fresh _ _ _
  have hB0 : Below w.heap.size w w0 := by rw [hw0]; exact (Below.refl _ _).alloc (Nat.le_refl _) _
  have hz0 : w.heap.size < w0.heap.size := hbl.lt
  change Calls _ _ _ (w.alloc (.cells (u8s (List.replicate 16 0)).toArray 44)) _
  rw [← hw0]
  clear hw0
  refine (input_any tag l A n c w0 ((HL.out.below' hB0 (Nat.le_refl _)).more (Nat.le_of_lt hz0)) hn hcat).mono ?_
  rintro e w1 ⟨⟨A1, c1, rfl, hown⟩, hB1⟩
  have hb1 := hB0.trans (hB1.mono (Nat.le_of_lt hz0))
  have hbl1 := hbl.below hB1 hz0
  have hz1 := hB1.size
  go_wp2_with fail
  refine (short_any _ A1 _ c1 w1 (Rd.of_own hown) HBY.out hlen (Tab.below HK.out hb1 (Tab.lt HK.out))).mono ?_
  rintro e w2 ⟨rfl, hB2⟩
  rw [← HV.out]
  have hb2 := hb1.trans (hB2.mono (by omega))
  have hbl2 := hbl1.below hB2 (by omega)
  clear hown hB1 hB2 hbl hbl1 hB0
  go_wp2_with (refine wpList_store_row rfl 44 (.tmp 4) (.tmp 8) rfl w.heap.size _ rfl rfl 44 _ hbl2 (info_16u8.trans (congrArg some HSZ.out.symm)) (zero16_len.trans HSZ.out.symm) HONE.out ?_)
  exact bodyPost_ret (results_cell_row Tryd.results22 _ _ w.heap.size 44 _ (0, 0) _ rfl (hbl2.setRow V) Tryd.underlying44 rfl (info_16u8.trans (congrArg some HSZ.out.symm))) rfl ⟨by rw [HV.out], below_row hb2 (Nat.le_refl _) _⟩
end Go.Proofs.YtheaniplpmkhlaaDoor
