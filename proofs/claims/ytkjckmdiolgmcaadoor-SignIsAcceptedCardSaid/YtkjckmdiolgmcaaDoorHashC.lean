/- The walks of hash.Begin, Stream.Add, Stream.Sum, hash.Sum. No condition. -/
import Derived.Test.YtkjckmdiolgmcaaDoorHashB
import Derived.Test.YtkjckmdiolgmcaaDoorStream
import Derived.Deep.RegionWith
import Derived.Deep.DeepCutAuto
set_option linter.unusedSimpArgs false
set_option linter.unusedVariables false
namespace Go.Proofs.YtkjckmdiolgmcaaDoor
open Go.RowKit
theorem zero_stream : IsStream (u32s initSt.list ++ (u8s (List.replicate 64 0) ++ [.int .u64 0])) [] (List.replicate 64 0) :=
  ⟨rfl, rfl, fun x hx => by obtain rfl := (List.mem_replicate.1 hx).2; omega, Byt.nil, rfl⟩
/-- The zero stream's cells. -/
def zeroS : List Value := u32s [0, 0, 0, 0, 0, 0, 0, 0] ++ (u8s (List.replicate 64 0) ++ [Value.int .u64 0])
def initS : List Value := u32s initSt.list ++ (u8s (List.replicate 64 0) ++ [Value.int .u64 0])
theorem zeroS_len : zeroS.toArray.size = 73 := rfl
theorem initS_len : initS.toArray.size = 73 := rfl
theorem initS_one : initS.toArray.all (·.oneCell') = true := by simp [initS, u32s, u8s, St.list, Value.oneCell']
theorem zero_run (W : World) : (zeroValue 74).run Tryd.prog W = .ok (.agg zeroS.toArray) W := by kernel_rfl
theorem build_init (W : World) : (Instr.build 74 #[(0, .agg #[.int .u32 1779033703, .int .u32 3144134277, .int .u32 1013904242, .int .u32 2773480762, .int .u32 1359893119, .int .u32 2600822924, .int .u32 528734635, .int .u32 1541459225])]).run Tryd.prog W = .ok (.agg initS.toArray) W := by kernel_rfl
theorem info_stream : (Tryd.prog.info? 74).map (·.size) = some 73 := by kernel_rfl
theorem IsStream.size {cs : List Value} {m blk : List Int} (h : IsStream cs m blk) : cs.toArray.size = 73 := by
  rw [h.cells]
  simp [u32s, St.list, u8s, h.len]
theorem IsStream.one {cs : List Value} {m blk : List Int} (h : IsStream cs m blk) : cs.toArray.all (·.oneCell') = true := by
  rw [h.cells]
  simp [u32s, St.list, u8s, Value.oneCell']
set_option maxHeartbeats 400000 in
set_option maxRecDepth 100000 in
theorem begin_any (w : World) :
    Calls Tryd.prog 32 #[] w fun e w' => e = .returned (.agg initS.toArray) ∧ Below w.heap.size w w' := by
  have hz := zero_run
  have hbi := build_init
  go_enter Tryd.func32, Tryd.ntmps32
  go_wp2_with (refine wpList_store_row rfl 74 (.tmp 0) (.tmp 2) rfl w.heap.size _ rfl rfl 74 _ (heap_alloc_new w _) (info_stream.trans (congrArg some initS_len.symm)) (zeroS_len.trans initS_len.symm) initS_one ?_)
  exact bodyPost_ret (results_cell_row Tryd.results32 _ _ w.heap.size 74 _ (0, 0) _ rfl ((Blk.fresh w _ zeroS).setRow initS) Tryd.underlying74 rfl (info_stream.trans (congrArg some initS_len.symm))) rfl ⟨rfl, below_row ((Below.refl _ _).alloc (Nat.le_refl _) _) (Nat.le_refl _) _⟩
/-- compress, its result written out. -/
theorem compress_ex (s : St) (l : List Int) (g o c : Nat) (w : World) (hl : l.length = 64) (hc : ∀ j, j < 64 → w.cell? ⟨g, o + j, none⟩ = some (.int .u8 (l.getD j 0))) (hb : Byt l) (hcap : 64 ≤ c) (hcm : c ≤ 9223372036854775807) (hK : KTab w) :
    Calls Tryd.prog 40 #[.agg #[.int .u32 s.a, .int .u32 s.b, .int .u32 s.c, .int .u32 s.d, .int .u32 s.e, .int .u32 s.f, .int .u32 s.g, .int .u32 s.h], .slice (some ⟨g, o, none⟩) 64 c] w fun e w' =>
      e = .returned (.agg #[.int .u32 (compI s l).a, .int .u32 (compI s l).b, .int .u32 (compI s l).c, .int .u32 (compI s l).d, .int .u32 (compI s l).e, .int .u32 (compI s l).f, .int .u32 (compI s l).g, .int .u32 (compI s l).h]) ∧ Below w.heap.size w w' :=
  compress_any s l g o c w hl hc hb hcap hcm hK
/-- The cells of a stream. -/
def strC (st : St) (b : List Int) (n : Int) : List Value := u32s st.list ++ (u8s b ++ [.int .u64 n])
theorem strC_72 (st : St) (b : List Int) (n : Int) (h : b.length = 64) : (strC st b n)[72]? = some (.int .u64 n) := by
  unfold strC
  rw [List.getElem?_append_right (by simp [u32s, St.list]), List.getElem?_append_right (by simp [u32s, St.list, u8s, h])]
  simp [u32s, St.list, u8s, h]
theorem strC_set72 (st : St) (b : List Int) (n k : Int) (h : b.length = 64) : (strC st b n).set 72 (.int .u64 k) = strC st b k := by
  unfold strC
  rw [List.set_append_right _ _ (by simp [u32s, St.list]), List.set_append_right _ _ (by simp [u32s, St.list, u8s, h])]
  simp [u32s, St.list, u8s, h]
theorem strC_blk (st : St) (b : List Int) (n : Int) (h : b.length = 64) (j : Nat) (hj : j < 64) : (strC st b n)[8 + j]? = some (.int .u8 (b.getD j 0)) := by
  unfold strC
  rw [List.getElem?_append_right (by simp [u32s, St.list]), List.getElem?_append_left (by simp [u32s, St.list, u8s, h]; omega)]
  have : 8 + j - (u32s st.list).length = j := by simp [u32s, St.list]
  rw [this]
  exact u8s_get b j (by omega)
theorem strC_st (st : St) (b : List Int) (n : Int) : (strC st b n)[0]? = some (.int .u32 st.a) ∧ (strC st b n)[1]? = some (.int .u32 st.b) ∧ (strC st b n)[2]? = some (.int .u32 st.c) ∧ (strC st b n)[3]? = some (.int .u32 st.d) ∧
    (strC st b n)[4]? = some (.int .u32 st.e) ∧ (strC st b n)[5]? = some (.int .u32 st.f) ∧ (strC st b n)[6]? = some (.int .u32 st.g) ∧ (strC st b n)[7]? = some (.int .u32 st.h) := ⟨rfl, rfl, rfl, rfl, rfl, rfl, rfl, rfl⟩
theorem strC_setst (st r : St) (b : List Int) (n : Int) : ((((((((strC st b n).set 0 (.int .u32 r.a)).set 1 (.int .u32 r.b)).set 2 (.int .u32 r.c)).set 3 (.int .u32 r.d)).set 4 (.int .u32 r.e)).set 5 (.int .u32 r.f)).set 6 (.int .u32 r.g)).set 7 (.int .u32 r.h) = strC r b n := rfl
theorem laid_mid (P X Q : List Value) (n k : Nat) (x : List Value) (hP : P.length = n) (h : k + x.length ≤ X.length) : laid (P ++ (X ++ Q)) (n + k) x = P ++ (laid X k x ++ Q) := by
  unfold laid
  subst hP
  rw [List.take_length_add_append, Nat.add_assoc, List.drop_length_add_append, List.take_append_of_le_length (by omega), List.drop_append_of_le_length (by omega)]
  simp
theorem laid_u8s (blk x : List Int) (k : Nat) : laid (u8s blk) k (u8s x) = u8s (over blk k x) := by
  simp [laid, over, u8s]
theorem strC_laid (st : St) (b : List Int) (n : Int) (h : b.length = 64) (k : Nat) (x : List Int) (hx : k + x.length ≤ 64) : laid (strC st b n) (8 + k) (u8s x) = strC st (over b k x) n := by
  unfold strC
  rw [laid_mid _ _ _ 8 _ _ (by simp [u32s, St.list]) (by rw [u8s_length, u8s_length, h]; omega), laid_u8s]
theorem stream_small {cs : List Value} {m blk x : List Int} {a k : Nat} (h : IsStream cs m blk) (ha : a = m.length % 64) (_hk : x.length = k) (hx : Byt x) (hf : a + k < 64) :
    IsStream (strC (hst m) (over blk a x) (m.length + k)) (m ++ x) (over blk a x) := by
  subst ha _hk
  refine ⟨?_, by rw [over_len _ _ _ (by rw [h.len]; omega), h.len], over_byt h.byt hx _, h.mbyt.app hx, str_part h.part h.len hf⟩
  rw [hst_small m x hf, List.length_append, Int.natCast_add]
  rfl
theorem stream_full {cs : List Value} {m blk x : List Int} {a k : Nat} (h : IsStream cs m blk) (ha : a = m.length % 64) (hk : x.length = k) (hx : Byt x) (hf : a + k = 64) :
    IsStream (strC (compI (hst m) (over blk a x)) (over blk a x) (m.length + k)) (m ++ x) (over blk a x) := by
  subst ha hk
  refine ⟨?_, by rw [over_len _ _ _ (by rw [h.len]; omega), h.len], over_byt h.byt hx _, h.mbyt.app hx, str_full_part m x blk hf⟩
  rw [hst_full m x hf, List.length_append, Int.natCast_add, str_full h.part h.len hf]
  rfl
theorem rest_bys {s s' : ByteArray} {d k : Nat} (hs : bys s' = (bys s).drop d) (_hk : k ≤ s'.size) : bys (s'.extract k s'.size) = (bys s).drop (d + k) := by
  rw [bys_extract, List.take_of_length_le (by rw [List.length_drop, bys_length]; omega), hs, List.drop_drop]
theorem rest_app {s s' : ByteArray} {m m' : List Int} {d k : Nat} (hm : m ++ (bys s).take d = m') (hs : bys s' = (bys s).drop d) : m ++ (bys s).take (d + k) = m' ++ (bys s').take k := by
  rw [← hm, hs, List.append_assoc, List.take_add]
theorem rest_size {s s' : ByteArray} {d k : Nat} (hd : d + s'.size = s.size) (hk : k ≤ s'.size) : d + k + (s'.extract k s'.size).size = s.size := by
  rw [ByteArray.size_extract]; omega
theorem not_empty {s : ByteArray} (h : ¬ s.size = 0) : (!s.toList.isEmpty) = true := by
  rw [ByteArray.toList_eq]
  cases hh : s.data.toList with
  | nil => exact absurd (by rw [← bys_length]; simp [bys, hh]) h
  | cons a l => rfl
theorem is_empty {s : ByteArray} (h : s.size = 0) : (!s.toList.isEmpty) = false := by
  rw [ByteArray.toList_eq]
  cases hh : s.data.toList with
  | nil => rfl
  | cons a l => rw [← bys_length] at h; simp [bys, hh] at h
/-- Behind a call the state's cells are there and not frozen. -/
theorem after_comp {w w' : World} {g : Nat} {t : TypeId} {st : St} {b : List Int} {n : Int} (h : Blk w g t (strC st b n)) (hb : Below w.heap.size w w') :
    w'.cell? ⟨g, 0, none⟩ = some (.int .u32 st.a) ∧ w'.cell? ⟨g, 1, none⟩ = some (.int .u32 st.b) ∧ w'.cell? ⟨g, 2, none⟩ = some (.int .u32 st.c) ∧ w'.cell? ⟨g, 3, none⟩ = some (.int .u32 st.d) ∧
    w'.cell? ⟨g, 4, none⟩ = some (.int .u32 st.e) ∧ w'.cell? ⟨g, 5, none⟩ = some (.int .u32 st.f) ∧ w'.cell? ⟨g, 6, none⟩ = some (.int .u32 st.g) ∧ w'.cell? ⟨g, 7, none⟩ = some (.int .u32 st.h) ∧
    w'.frozen? ⟨g, 0, none⟩ = false ∧ w'.frozen? ⟨g, 1, none⟩ = false ∧ w'.frozen? ⟨g, 2, none⟩ = false ∧ w'.frozen? ⟨g, 3, none⟩ = false ∧ w'.frozen? ⟨g, 4, none⟩ = false ∧ w'.frozen? ⟨g, 5, none⟩ = false ∧ w'.frozen? ⟨g, 6, none⟩ = false ∧ w'.frozen? ⟨g, 7, none⟩ = false := by
  have h' := h.below hb h.lt
  exact ⟨h'.cell 0, h'.cell 1, h'.cell 2, h'.cell 3, h'.cell 4, h'.cell 5, h'.cell 6, h'.cell 7, h'.frozen 0, h'.frozen 1, h'.frozen 2, h'.frozen 3, h'.frozen 4, h'.frozen 5, h'.frozen 6, h'.frozen 7⟩
def slen : Value → Nat | .string s => s.size | _ => 0
set_option maxHeartbeats 400000 in
set_option maxRecDepth 100000 in
theorem add_any (cs : List Value) (m blk : List Int) (s : ByteArray) (w : World) (hI : IsStream cs m blk) (hn : m.length + s.size ≤ 4611686018427387904) (hK : KTab w) :
    Calls Tryd.prog 33 #[.agg cs.toArray, .string s] w fun e w' => (∃ cs' blk', e = .returned (.agg cs'.toArray) ∧ IsStream cs' (m ++ bys s) blk') ∧ Below w.heap.size w w' := by
  have hz := zero_run
  go_enter Tryd.func33, Tryd.ntmps33
  go_wp2_with fail
  clear hz
  go_loopw [1] (fun s1 wr => ∃ (d : Nat) (s' : ByteArray) (cs' : List Value) (blk' : List Int), s1 = .string s' ∧ d + s'.size = s.size ∧ bys s' = (bys s).drop d ∧ IsStream cs' (m ++ (bys s).take d) blk' ∧ Blk wr w.heap.size 74 cs' ∧ Blk wr (w.heap.size + 1) 74 zeroS ∧ Below w.heap.size w wr)
    (fun s1 _ => slen s1)
  case atStart => exact ⟨0, s, cs, blk, rfl, by omega, rfl, by simpa using hI, (Blk.fresh' _ _ _ _ _ rfl rfl).alloc _, Blk.fresh' _ _ _ _ _ rfl (by simp), ((Below.refl _ _).alloc (Nat.le_refl _) _).alloc (by simp) _⟩
  case round =>
    obtain ⟨d, s', cs', blk', rfl, hd, hs', hI', hb0, hb1, hB⟩ := hrel
    have hl' := bys_length s'
    have hmlen : (m ++ (bys s).take d).length = m.length + d := by
      rw [List.length_append, List.length_take, bys_length]; omega
    generalize hm' : m ++ (bys s).take d = m' at *
    have HM := Lib.hid hm'; clear hm'
    by_cases h0 : s'.size = 0
    · have hne := is_empty h0
      have hsz := hI'.size
      have hone := hI'.one
      have HI := Lib.hid hI'; have HML := Lib.hid hmlen; have HL := Lib.hid hl'; have HD := Lib.hid hd; have HS := Lib.hid hs'
      clear hI' hmlen hl' hd hs'
      go_wp2_with (first
        | refine wpList_load_row rfl 74 (.tmp 2) rfl w.heap.size rfl 74 _ (0, 0) _ hb0 Tryd.underlying74 rfl (info_stream.trans (congrArg some hsz.symm)) ?_
        | refine wpList_store_row rfl 74 (.tmp 4) (.tmp 37) rfl (w.heap.size + 1) _ rfl rfl 74 _ hb1 (info_stream.trans (congrArg some hsz.symm)) (zeroS_len.trans hsz.symm) hone ?_)
      refine bodyPost_ret (results_cell_row Tryd.results33 _ _ (w.heap.size + 1) 74 _ (0, 0) _ rfl (hb1.setRow cs') Tryd.underlying74 rfl (info_stream.trans (congrArg some hsz.symm))) rfl ⟨⟨cs', blk', rfl, ?_⟩, below_row hB (by omega) _⟩
      have : (bys s).take d = bys s := List.take_of_length_le (by rw [bys_length]; have := HD.out; omega)
      rw [← this, HM.out]
      exact HI.out
    · have hne := not_empty h0
      obtain ⟨a, had⟩ : ∃ a, a = m'.length % 64 := ⟨_, rfl⟩
      have ha : ((m'.length : Int) % 64) = (a : Int) := by omega
      have ha1 : a < 64 := by omega
      have ha0 : (0 : Int) ≤ (a : Int) := by omega
      have ha3 : (a : Int) ≤ 64 := by omega
      obtain ⟨k, hkd⟩ : ∃ k, k = Nat.min s'.size (64 - a) := ⟨_, rfl⟩
      have hk1 : k ≤ s'.size := by rw [hkd]; exact Nat.min_le_left _ _
      have hk2 : a + k ≤ 64 := by
        have : k ≤ 64 - a := by rw [hkd]; exact Nat.min_le_right _ _
        omega
      have hk0 : 0 < k := by
        have : k = s'.size ∨ k = 64 - a := by rw [hkd]; simp only [Nat.min_def]; split <;> simp
        omega
      have hcp := run_copy_str (P := Tryd.prog) wr 43 9 3 5 w.heap.size (8 + a) (64 - a) (64 - a) s' cs' 74 Tryd.underlying43 (by kernel_rfl) hb0 (by
        rw [← hkd]
        have := hI'.size
        simp at this
        omega)
      rw [← hkd] at hcp
      have hxl : ((bys s').take k).length = k := by rw [List.length_take, bys_length]; omega
      have hcs : laid cs' (8 + a) (u8s ((bys s').take k)) = strC (hst m') (over blk' a ((bys s').take k)) m'.length := by
        rw [hI'.cells]; exact strC_laid _ _ _ hI'.len _ _ (by omega)
      have hol : (over blk' a ((bys s').take k)).length = 64 := by rw [over_len _ _ _ (by rw [hI'.len]; omega), hI'.len]
      rw [hcs] at hcp
      obtain ⟨w2, hw2⟩ : ∃ w2, w2 = wr.setRow w.heap.size (strC (hst m') (over blk' a ((bys s').take k)) m'.length).toArray := ⟨_, rfl⟩
      rw [← hw2] at hcp
      have b0 : Blk w2 w.heap.size 74 (strC (hst m') (over blk' a ((bys s').take k)) m'.length) := by rw [hw2]; exact hb0.setRow _
      have b1 : Blk w2 (w.heap.size + 1) 74 zeroS := by rw [hw2]; exact hb1.setRow_far (by omega) _
      have hB2 : Below w.heap.size w w2 := by rw [hw2]; exact below_row hB (Nat.le_refl _) _
      have c72 : wr.cell? ⟨w.heap.size, 72, none⟩ = some (.int .u64 m'.length) := by rw [hb0.cell 72, hI'.cells]; exact strC_72 _ _ _ hI'.len
      have d72 := (b0.cell 72).trans (strC_72 _ _ _ hol)
      have f72 := b0.frozen 72
      clear hw2 hcs
      have HB0 := Lib.hid b0; have HB1 := Lib.hid b1; have HOL := Lib.hid hol; have HXL := Lib.hid hxl
      clear b0 b1 hb0 hb1 hB hol hxl
      have HAD := Lib.hid had; have HKD := Lib.hid hkd; have HML := Lib.hid hmlen; have HL := Lib.hid hl'; have HD := Lib.hid hd; have HS := Lib.hid hs'
      have hbd : m'.length + s'.size ≤ 4611686018427387904 := by omega
      clear hkd had hmlen hl' hd hs'
      by_cases hf : a + k < 64
      · go_wp2_with fail
        go_roundw
        case rel =>
          have hN := stream_small hI' HAD.out HXL.out ((bys_byt s').take k) hf
          refine ⟨d + k, _, _, _, rfl, rest_size HD.out hk1, rest_bys HS.out hk1, by rw [rest_app HM.out HS.out]; exact hN, ?_, HB1.out.far (by simp) _, hB2.setCell (by simp) _⟩
          have := HB0.out.set 72 (.int .u64 ((m'.length : Int) + (k : Int)))
          rw [strC_set72 _ _ _ _ HOL.out] at this
          exact this
        case measure => simp [slen, ByteArray.size_extract]; omega
      · go_upto_region 7 with (fail)
        obtain ⟨w3, hw3⟩ : ∃ w3, w3 = w2.setCell ⟨w.heap.size, 72, none⟩ (.int .u64 ((m'.length : Int) + (k : Int))) := ⟨_, rfl⟩
        rw [← hw3]
        have b0 : Blk w3 w.heap.size 74 (strC (hst m') (over blk' a ((bys s').take k)) (m'.length + k)) := by
          have := HB0.out.set 72 (.int .u64 ((m'.length : Int) + (k : Int)))
          rw [strC_set72 _ _ _ _ HOL.out] at this
          rw [hw3]; exact this
        have b1 : Blk w3 (w.heap.size + 1) 74 zeroS := by rw [hw3]; exact HB1.out.far (by simp) _
        have hB3 : Below w.heap.size w w3 := by rw [hw3]; exact hB2.setCell (by simp) _
        have hK3 : KTab w3 := Tab.below hK hB3 (Tab.lt hK)
        have hfull := stream_full hI' HAD.out HXL.out ((bys_byt s').take k) (by omega)
        have HF := Lib.hid hfull
        have hby := hfull.byt
        clear hfull hw3 hcp c72 d72 f72 HB0 HB1 hB2 HAD
        generalize over blk' a ((bys s').take k) = nb at *
        obtain ⟨s0, s1, s2, s3, s4, s5, s6, s7⟩ := strC_st (hst m') nb (m'.length + k)
        have d0 := (b0.cell 0).trans s0
        have d1 := (b0.cell 1).trans s1
        have d2 := (b0.cell 2).trans s2
        have d3 := (b0.cell 3).trans s3
        have d4 := (b0.cell 4).trans s4
        have d5 := (b0.cell 5).trans s5
        have d6 := (b0.cell 6).trans s6
        have d7 := (b0.cell 7).trans s7
        have HB0 := Lib.hid b0; have HB1 := Lib.hid b1; have HB3 := Lib.hid hB3; have HK3 := Lib.hid hK3
        clear s0 s1 s2 s3 s4 s5 s6 s7 b0 b1 hB3 hK3
        have hsz : w.heap.size + 1 < w3.heap.size := HB1.out.lt
        have hOL := HOL.out
        have hlt : w.heap.size < w3.heap.size := HB0.out.lt
        go_region_with (go_at_call 40; refine (compress_ex (hst m') nb w.heap.size 8 64 w3.drew HOL.out (fun j hj => (HB0.out.drew.cell (8 + j)).trans (strC_blk _ _ _ HOL.out j hj)) hby (Nat.le_refl _) (by decide) (Tab.drew HK3.out)).mono ?_; rintro e w4 ⟨rfl, hB4⟩; have g0 := after_comp (HB0.out.drew) hB4; obtain ⟨g0, g1, g2, g3, g4, g5, g6, g7, f0, f1, f2, f3, f4, f5, f6, f7⟩ := g0)
        clear g0 g1 g2 g3 g4 g5 g6 g7 f0 f1 f2 f3 f4 f5 f6 f7 d0 d1 d2 d3 d4 d5 d6 d7
        go_wp2_with fail
        go_roundw
        case rel =>
          have hN := HF.out
          refine ⟨d + k, _, _, _, rfl, rest_size HD.out hk1, rest_bys HS.out hk1, by rw [rest_app HM.out HS.out]; exact hN, ?_, ?_, ?_⟩
          · have h4 := (HB0.out.drew).below hB4 HB0.out.drew.lt
            have := ((((((((h4.set 0 (.int .u32 (compI (hst m') nb).a)).set 1 (.int .u32 (compI (hst m') nb).b)).set 2 (.int .u32 (compI (hst m') nb).c)).set 3 (.int .u32 (compI (hst m') nb).d)).set 4 (.int .u32 (compI (hst m') nb).e)).set 5 (.int .u32 (compI (hst m') nb).f)).set 6 (.int .u32 (compI (hst m') nb).g)).set 7 (.int .u32 (compI (hst m') nb).h))
            rw [strC_setst] at this
            exact this
          · have h4 := (HB1.out.drew).below hB4 HB1.out.drew.lt
            refine (((((((h4.far ?_ _).far ?_ _).far ?_ _).far ?_ _).far ?_ _).far ?_ _).far ?_ _).far ?_ _ <;> simp
          · have h4 : Below w.heap.size w w4 := HB3.out.drew.trans (hB4.mono (Nat.le_of_lt hlt))
            refine (((((((h4.setCell ?_ _).setCell ?_ _).setCell ?_ _).setCell ?_ _).setCell ?_ _).setCell ?_ _).setCell ?_ _).setCell ?_ _ <;> simp
        case measure => simp [slen, ByteArray.size_extract]; omega
end Go.Proofs.YtkjckmdiolgmcaaDoor
