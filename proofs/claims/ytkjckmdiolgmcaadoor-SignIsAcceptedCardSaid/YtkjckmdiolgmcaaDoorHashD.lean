/- The walks of Stream.Sum, hash.Sum. No condition. -/
import Derived.Test.YtkjckmdiolgmcaaDoorHashC
import Derived.Deep.AppendLies
import Derived.Test.YtkjckmdiolgmcaaDoorGA
set_option linter.unusedSimpArgs false
set_option linter.unusedVariables false
namespace Go.Proofs.YtkjckmdiolgmcaaDoor
open Go.RowKit
theorem info_u8 : (Tryd.prog.info? 5).map (fun i => (i.zero, i.size, i.bytes)) = some (some (.int .u8 0), 1, 1) := by kernel_rfl
theorem info_32u8 : (Tryd.prog.info? 78).map (·.size) = some 32 := by kernel_rfl
theorem zero32_len : (u8s (List.replicate 32 0)).toArray.size = 32 := rfl
/-- The first j bytes of the padding's zero part behind 128. -/
def padZ (j : Nat) : List Int := 128 :: List.replicate j 0
theorem padZ_succ (j : Nat) : u8s (padZ j) ++ [.int .u8 0] = u8s (padZ (j + 1)) := by
  simp only [padZ, u8s, List.map_cons, List.map_replicate, List.cons_append, List.replicate_succ', List.map_append, List.map_cons, List.map_nil]
def padB (L j : Nat) : List Int := padZ ((119 - L % 64) % 64) ++ (be64 (8 * (L : Int))).take j
theorem padB_succ (L j : Nat) (h : j < 8) : u8s (padB L j) ++ [.int .u8 ((8 * (L : Int)) / 2 ^ (56 - 8 * j) % 256)] = u8s (padB L (j + 1)) := by
  unfold padB
  rw [List.take_add_one, u8s_append, u8s_append, u8s_append, List.append_assoc]
  congr 2
  simp [be64, u8s, h]
theorem padB_len (L j : Nat) (h : j ≤ 8) : (padB L j).length = (119 - L % 64) % 64 + 1 + j := by
  simp [padB, padZ, be64]; omega
theorem own_blk {w : World} {base : Nat} {e : TypeId} {size n c : Nat} {A : Option Addr} {xs : List Value} (h : w.ownsRow base e size (.slice A n c) n xs) : ∀ k, (Value.slice A n c).ownBlock = some k → base ≤ k := fun k hk => (h.lt k hk).1
theorem strC_word (st : St) (b : List Int) (n : Int) (k : Nat) (h : k < 8) : (strC st b n)[k]? = some (.int .u32 (st.list.getD k 0)) := by
  unfold strC
  rw [List.getElem?_append_left (by simpa [u32s, St.list] using h)]
  exact u32s_get _ k h
theorem out_succ (st : St) (i : Nat) (h : i < 32) (x : Int) (hx : x = (st.list.getD (i / 4) 0 / 2 ^ (24 - 8 * (i % 4))) % 256) :
    (u8s ((outI st).take i ++ List.replicate (32 - i) 0)).set i (.int .u8 x) = u8s ((outI st).take (i + 1) ++ List.replicate (32 - (i + 1)) 0) := by
  subst hx
  obtain ⟨n, hn⟩ : ∃ n, 32 - i = n + 1 := ⟨31 - i, by omega⟩
  have hl : (outI st).length = 32 := by simp [outI]
  have hg : (outI st)[i]? = some ((st.list.getD (i / 4) 0 / 2 ^ (24 - 8 * (i % 4))) % 256) := by simp [outI, h]
  rw [hn, show 32 - (i + 1) = n from by omega, List.take_add_one, hg]
  unfold u8s
  rw [List.map_append, List.set_append_right _ _ (by simp [hl]; omega)]
  have : i - (List.map (Value.int IntKind.u8) (List.take i (outI st))).length = 0 := by simp [hl]; omega
  rw [this]
  simp [List.replicate_succ]
def slicelen : Value → Nat | .slice _ n _ => n | _ => 0
set_option maxHeartbeats 400000 in
set_option maxRecDepth 100000 in
theorem ssum_any (cs : List Value) (m blk : List Int) (w : World) (hI : IsStream cs m blk) (hn : m.length ≤ 1000000000000) (hK : KTab w) :
    Calls Tryd.prog 35 #[.agg cs.toArray] w fun e w' => e = .returned (.agg (u8s (sha m)).toArray) ∧ Below w.heap.size w w' := by
  obtain ⟨i0, hi, hz0, hz1, hz2⟩ := info_parts info_u8
  have HSZ := Lib.hid hI.size
  have HONE := Lib.hid hI.one
  go_enter Tryd.func35, Tryd.ntmps35
  have hc72 : cs[72]? = some (.int .u64 m.length) := by rw [hI.cells]; exact strC_72 _ _ _ hI.len
  obtain ⟨z, hz⟩ : ∃ z, z = (119 - m.length % 64) % 64 := ⟨_, rfl⟩
  have HZ := Lib.hid hz
  have hzb : z < 64 := by omega
  clear hz
  go_wp2_with fail
  have hb0 : Blk (w.alloc (.cells cs.toArray 74)) w.heap.size 74 cs := Blk.fresh w _ cs
  go_loopw [4] (fun s4 wr => ∃ (A : Option Addr) (c j : Nat), s4 = .slice A (j + 1) c ∧ j ≤ z ∧ wr.ownsRow (w.heap.size + 2) 5 1 (.slice A (j + 1) c) (j + 1) (u8s (padZ j)) ∧ Blk wr w.heap.size 74 cs ∧ Blk wr (w.heap.size + 1) 78 (u8s (List.replicate 32 0)) ∧ Below w.heap.size w wr)
    (fun s4 _ => z + 1 - slicelen s4)
  case atStart =>
    exact ⟨_, _, 0, rfl, Nat.zero_le _, own_lit _ _ _ _ (u8s (padZ 0)) _ 1 rfl (by simp) (by omega) rfl (by decide), ((hb0).alloc _).alloc _, (Blk.fresh' _ _ _ _ _ rfl (by simp)).alloc _, (((Below.refl _ _).alloc (Nat.le_refl _) _).alloc (by simp) _).alloc (by simp; omega) _⟩
  case round =>
    clear hb0
    obtain ⟨A, c, j, rfl, hj, hown, hb0, hb1, hB⟩ := hrel
    have c72 : wr.cell? ⟨w.heap.size, 72, none⟩ = some (.int .u64 m.length) := (hb0.cell 72).trans hc72
    have hsz1 := hb1.lt
    by_cases hjz : j < z
    · have ht : (((m.length : Int) + ((j : Int) + 1)) % 64 != 56) = true := by
        have := HZ.out
        rw [bne_iff_ne]; omega
      have HB0 := Lib.hid hb0; have HB1 := Lib.hid hb1; have HT := Lib.hid hc72
      clear hb0 hb1 hc72 hI
      go_wp2_with (at_builtin; refine wpList_append_lies _ rfl (.tmp 20) (.tmp 21) 43 rfl (w.heap.size + 2) 5 i0 (.int .u8 0) 1 1 Tryd.underlying43 hi hz0 hz1 hz2 rfl (by omega) _ _ _ rfl (hown.alloc _) ⟨wr.heap.size, 0, none⟩ 1 1 [.int .u8 0] rfl rfl (World.news_of_block (heap_alloc_new _ _)) (u8s_one [0]) (by omega) (by simp only [maxLen]; omega) (by omega) (by simp; omega) (wr.heap.size + 1) (by simp) ?_; intro g1 c1 w1 hown1 hgrow1 hat1 hlt1)
      go_roundw
      case rel =>
        have hne : ∀ k, (Value.slice A (j + 1) c).ownBlock = some k → w.heap.size + 2 ≤ k := own_blk hown
        refine ⟨_, _, j + 1, rfl, by omega, ?_, ?_, ?_, ?_⟩
        · rw [← padZ_succ]; exact hown1
        · exact (HB0.out.alloc _).grown hgrow1 (fun h => by have := hne _ h.symm; omega)
        · exact (HB1.out.alloc _).grown hgrow1 (fun h => by have := hne _ h.symm; omega)
        · exact (hB.alloc (by omega) _).grown hgrow1 (by simp; omega) (fun k hk => by have := hne k hk; omega)
      case measure => simp [slicelen]; omega
    · obtain rfl : j = z := by omega
      have ht : (((m.length : Int) + ((j : Int) + 1)) % 64 != 56) = false := by
        have := HZ.out
        rw [bne_eq_false_iff_eq]; omega
      have hK1 : KTab wr := Tab.below hK hB (Tab.lt hK)
      have hln : (8 * (m.length : Int)) ≤ 8000000000000 := by omega
      obtain ⟨wo, rfl⟩ : ∃ wo : World, wo = wr := ⟨_, rfl⟩
      go_wp2_with fail
      go_loopw [23, 4] (fun i s4 wr => ∃ (A : Option Addr) (c i' : Nat), i = .int .i64 i' ∧ s4 = .slice A (j + 1 + i') c ∧ i' ≤ 8 ∧ wr.ownsRow (w.heap.size + 2) 5 1 (.slice A (j + 1 + i') c) (j + 1 + i') (u8s (padB m.length i')) ∧ Blk wr w.heap.size 74 cs ∧ Blk wr (w.heap.size + 1) 78 (u8s (List.replicate 32 0)) ∧ Below w.heap.size w wr)
        (fun i _ _ => 8 - (intOf i).toNat)
      case atStart => exact ⟨_, _, 0, rfl, rfl, Nat.zero_le _, by rw [show padB m.length 0 = padZ j from by unfold padB; rw [HZ.out]; simp]; exact hown, hb0, hb1, hB⟩
      case round =>
        clear hown hb0 hb1 hB c72 ht hsz1
        obtain ⟨A, c, i', rfl, rfl, hi8, hown, hb0, hb1, hB⟩ := hrel
        have hsz1 := hb1.lt
        by_cases hlt : i' < 8
        · have HB0 := Lib.hid hb0; have HB1 := Lib.hid hb1; have HT := Lib.hid hc72
          clear hb0 hb1 hc72 hI
          go_wp2_with (at_builtin; refine wpList_append_lies _ rfl (.tmp 26) (.tmp 33) 43 rfl (w.heap.size + 2) 5 i0 (.int .u8 0) 1 1 Tryd.underlying43 hi hz0 hz1 hz2 rfl (by omega) _ _ _ rfl (hown.alloc _) ⟨wr.heap.size, 0, none⟩ 1 1 [.int .u8 (8 * (m.length : Int) / 2 ^ (56 - 8 * i') % 256)] rfl rfl (World.news_of_block (heap_alloc_new _ _)) (u8s_one [_]) (by omega) (by simp only [maxLen]; omega) (by omega) (by simp; omega) (wr.heap.size + 1) (by simp) ?_; intro g1 c1 w1 hown1 hgrow1 hat1 hlt1)
          go_roundw
          case rel =>
            have hne : ∀ k, (Value.slice A (j + 1 + i') c).ownBlock = some k → w.heap.size + 2 ≤ k := own_blk hown
            refine ⟨_, _, i' + 1, by go_num, rfl, by omega, ?_, ?_, ?_, ?_⟩
            · rw [← padB_succ _ _ hlt]; exact hown1
            · exact (HB0.out.alloc _).grown hgrow1 (fun h => by have := hne _ h.symm; omega)
            · exact (HB1.out.alloc _).grown hgrow1 (fun h => by have := hne _ h.symm; omega)
            · exact (hB.alloc (by omega) _).grown hgrow1 (by simp; omega) (fun k hk => by have := hne k hk; omega)
          case measure => simp [intOf] <;> omega
        · obtain rfl : i' = 8 := by omega
          have hK2 : KTab wr := Tab.below hK hB (Tab.lt hK)
          have hpad : padB m.length 8 = padOf m.length := by
            unfold padB padOf padZ
            rw [List.take_of_length_le (by simp [be64])]
          rw [hpad] at hown
          have hcv := run_toStr (P := Tryd.prog) Tryd.underlying43 Tryd.underlying5 Tryd.underlying9 (Rd.of_own hown) c (fun h => by omega)
          have hlen := padOf_len m.length
          have hbys := bys_strOf _ (padOf_byt m.length)
          have HI := Lib.hid hI; have HB1 := Lib.hid hb1; have HK2 := Lib.hid hK2; have HP := Lib.hid hpad; have HLEN : Hid ((strOf (padOf m.length)).size ≤ 72) := Lib.hid (by rw [strOf_size]; exact hlen)
          have HBY := Lib.hid hbys
          have hr := HSZ.out
          clear hI hb1 hK2 hpad hown hlen hbys hK1
          generalize strOf (padOf m.length) = ps at *
          have hs64 : ps.size ≤ 72 := HLEN.out
          go_wp2_with (refine wpList_load_row rfl 74 (.tmp 1) rfl w.heap.size rfl 74 _ (0, 0) _ hb0 Tryd.underlying74 rfl (info_stream.trans (congrArg some HSZ.out.symm)) ?_)
          with_reducible refine (add_any cs m blk ps wr HI.out (by omega) HK2.out).mono ?_
          rintro e w5 ⟨⟨cs5, blk5, rfl, hI5⟩, hB5⟩
          rw [HBY.out] at hI5
          have hr5 := hI5.size
          have ho5 := hI5.one
          have hb5 := hb0.below hB5 hb0.lt
          have HR55 : Hid (cs.toArray.size = cs5.toArray.size) := Lib.hid (HSZ.out.trans hr5.symm)
          have HI55 := Lib.hid (info_stream.trans (congrArg some hr5.symm))
          have HST0 := Lib.hid (strC_st (hst (m ++ padOf m.length)) blk5 ((m ++ padOf m.length).length))
          have HC5 : Hid (cs5 = strC (hst (m ++ padOf m.length)) blk5 ((m ++ padOf m.length).length)) := Lib.hid hI5.cells
          have HO5 := Lib.hid ho5
          clear hr5 hb0 ho5 hI5
          go_wp2_with (refine wpList_store_row rfl 74 (.tmp 1) (.tmp 39) rfl w.heap.size _ rfl rfl 74 _ hb5 HI55.out HR55.out HO5.out ?_)
          obtain ⟨wq, rfl⟩ : ∃ x : World, x = w5 := ⟨_, rfl⟩
          have hb1' := (HB1.out.below hB5 HB1.out.lt)
          have hBw : Below w.heap.size w wq := hB.trans (hB5.mono (Nat.le_of_lt (Nat.lt_of_succ_lt hsz1)))
          have hq5 : w.heap.size + 1 < wq.heap.size := hb1'.lt
          have hcl : ∀ k, k < 8 → cs5[k]? = some (.int .u32 ((hst (m ++ padOf m.length)).list.getD k 0)) := fun k hk => by rw [HC5.out]; exact strC_word _ _ _ k hk
          have HSTT := Lib.hid hcl
          have HN : Hid (outI (hst (m ++ padOf m.length)) = sha m) := Lib.hid rfl
          clear hcl HST0 HC5 HI HP HBY HLEN hcv hc72 HZ
          generalize hst (m ++ padOf m.length) = st at *
          go_loopw [40] (fun i wr => ∃ t : Nat, t ≤ 32 ∧ i = .int .i64 t ∧ Blk wr wq.heap.size 78 (u8s ((outI st).take t ++ List.replicate (32 - t) 0)) ∧ Blk wr w.heap.size 74 cs5 ∧ Blk wr (w.heap.size + 1) 78 (u8s (List.replicate 32 0)) ∧ Below w.heap.size w wr)
            (fun i _ => 32 - (intOf i).toNat)
          case atStart => exact ⟨0, by omega, rfl, Blk.fresh' _ _ _ _ _ rfl (by simp), (hb5.setRow cs5).alloc _, (hb1'.setRow_far (by omega) _).alloc _, (below_row hBw (Nat.le_refl _) _).alloc (by simp; omega) _⟩
          case round =>
            clear hb5 hb1' hBw hB
            obtain ⟨t, ht, rfl, hbo, hb5, hb1, hB⟩ := hrel
            by_cases hlt : t < 32
            · have c0 := (hb5.cell (t / 4)).trans (HSTT.out (t / 4) (by omega))
              have fz := hbo.frozen t
              have co := hbo.cell t
              have hol : (outI st).length = 32 := by simp [outI]
              rw [show (u8s ((outI st).take t ++ List.replicate (32 - t) 0))[t]? = some (.int .u8 0) from by
                rw [u8s_get _ _ (by simp [hol]; omega), List.getD_eq_getElem?_getD, List.getElem?_append_right (by simp [hol]; omega)]
                simp [hol, List.getElem?_replicate]
                split <;> rfl] at co
              have HO := Lib.hid (out_succ st t hlt)
              have HBO := Lib.hid hbo; have HB5 := Lib.hid hb5; have HBB1 := Lib.hid hb1
              clear hbo hb5 hb1 hol
              generalize st.list.getD (t / 4) 0 = x at *
              obtain ⟨q, hq⟩ : ∃ q, q = t % 4 := ⟨_, rfl⟩
              rw [← hq] at HO
              have hm4 : ((t : Int) % 4) = (q : Int) := by omega
              have hm4b : q < 4 := by omega
              have HQ := Lib.hid hq
              clear hq
              go_wp2_with fail
              go_roundw
              case rel =>
                refine ⟨t + 1, by omega, by go_num, ?_, HB5.out.far (by simp; omega) _, HBB1.out.far (by simp; omega) _, hB.setCell (by simp; omega) _⟩
                rw [← HO.out _ rfl]
                exact HBO.out.set t _
              case measure => simp [intOf]; omega
            · obtain rfl : t = 32 := by omega
              have hol : (outI st).length = 32 := by simp [outI]
              have he : (outI st).take 32 ++ List.replicate (32 - 32) 0 = sha m := by
                rw [List.take_of_length_le (by omega), HN.out]; simp
              rw [he] at hbo
              have hs32 : (u8s (sha m)).toArray.size = 32 := by simp [u8s, sha_length]
              have ho32 : (u8s (sha m)).toArray.all (·.oneCell') = true := by simp [u8s, Value.oneCell']
              have HS32 := Lib.hid hs32; have HO32 := Lib.hid ho32
              clear hs32 ho32 he hol HN
              generalize hout : u8s (sha m) = out at *
              have HOUT := Lib.hid hout; clear hout
              go_wp2_with (first
                | refine wpList_load_row rfl 78 (.tmp 6) rfl wq.heap.size rfl 78 _ (0, 0) _ hbo Tryd.underlying78 rfl (info_32u8.trans (congrArg some HS32.out.symm)) ?_
                | refine wpList_store_row rfl 78 (.tmp 2) (.tmp 57) rfl (w.heap.size + 1) _ rfl rfl 78 _ hb1 (info_32u8.trans (congrArg some HS32.out.symm)) (zero32_len.trans HS32.out.symm) HO32.out ?_)
              exact bodyPost_ret (results_cell_row Tryd.results35 _ _ (w.heap.size + 1) 78 _ (0, 0) _ rfl (hb1.setRow out) Tryd.underlying78 rfl (info_32u8.trans (congrArg some HS32.out.symm))) rfl ⟨by rw [HOUT.out], below_row hB (by omega) _⟩
/-- A list of cells, read as it was behind a call. -/
theorem Rd.call {w w' : World} {B : Nat} {A : Option Addr} {n : Nat} {xs : List Value} (h : Rd w B A n xs) (hB : B ≤ w.heap.size) (hb : Below w.heap.size w w') : Rd w' B A n xs := h.below' hb hB
theorem opt_cases (A : Option Addr) (n : Nat) (_ : n = 0) : A = none ∨ ∃ a, A = some a := by cases A <;> simp
attribute [local go_sem ↓] wp_at_zero wp_at_succ
set_option maxHeartbeats 400000 in
set_option maxRecDepth 100000 in
theorem sum_any (l : List Int) (A : Option Addr) (n c : Nat) (w : World) (hl : Rd w w.heap.size A n (u8s l)) (hb : Byt l) (hn : n ≤ 1000000000000) (hK : KTab w) :
    Calls Tryd.prog 38 #[.slice A n c] w fun e w' => e = .returned (.agg (u8s (sha l)).toArray) ∧ Below w.heap.size w w' := by
  have hlen : l.length = n := by simpa [u8s] using hl.1
  have hcv : ∀ W : World, Rd W w.heap.size A n (u8s l) → (convert 43 9 (.slice A n c)).run Tryd.prog W = .ok (.string (strOf l)) W := fun W h => run_toStr (P := Tryd.prog) Tryd.underlying43 Tryd.underlying5 Tryd.underlying9 h c (opt_cases A n)
  obtain ⟨O, hO⟩ : ∃ O : Array Value, O = (u8s (sha l)).toArray := ⟨_, rfl⟩
  have hsz : O.size = 32 := by rw [hO]; simp [u8s, sha_length]
  have hone : O.all (·.oneCell') = true := by rw [hO]; simp [u8s, Value.oneCell']
  have hinf := info_32u8.trans (congrArg some hsz.symm)
  have hbs := bys_strOf l hb
  have hss : (strOf l).size = n := by rw [strOf_size, hlen]
  have hs1 : (strOf l).size ≤ 1000000000000 := by omega
  have HSS := Lib.hid hss; have HBS := Lib.hid hbs; have HSZ := Lib.hid hsz; have HOO := Lib.hid hO; have HLEN := Lib.hid hlen; have HK := Lib.hid hK; have HL := Lib.hid hl; have HCV := Lib.hid hcv
  clear hss hbs hO hlen hK hl hcv hinf
  generalize strOf l = s at *
  go_enter Tryd.func38, Tryd.ntmps38
  go_upto_region 1 with (fail)
  obtain ⟨w0, hw0⟩ : ∃ w0, w0 = w.alloc (.cells (u8s (List.replicate 32 0)).toArray 78) := ⟨_, rfl⟩
  have hbl : Blk w0 w.heap.size 78 (u8s (List.replicate 32 0)) := by rw [hw0]; exact Blk.fresh _ _ _
  have hB0 : Below w.heap.size w w0 := by rw [hw0]; exact (Below.refl _ _).alloc (Nat.le_refl _) _
  have hz0 : w.heap.size < w0.heap.size := hbl.lt
  change Code.wp _ _ _ _ (w.alloc (.cells (u8s (List.replicate 32 0)).toArray 78))
  rw [← hw0]
  have hcv0 := HCV.out _ ((HL.out.below' hB0 (Nat.le_refl _)).drew)
  clear hw0
  have HBL := Lib.hid hbl; clear hbl
  go_region_with (first
    | (go_at_call 32; refine (begin_any w0.drew).mono ?_; rintro e w1 ⟨rfl, hB1⟩; have hb1 := hB0.drew.trans (hB1.mono (Nat.le_of_lt hz0)); have hcv1 := HCV.out _ (HL.out.below' hb1 (Nat.le_refl _)); have hz1 : w.heap.size < w1.heap.size := Nat.lt_of_lt_of_le hz0 hB1.size)
    | (go_at_call 33; refine (add_any initS [] (List.replicate 64 0) s w1 zero_stream (by rw [List.length_nil]; omega) (Tab.below HK.out hb1 (Tab.lt HK.out))).mono ?_; rintro e w2 ⟨⟨cs, blk, rfl, hI⟩, hB2⟩; have hz2 : w.heap.size < w2.heap.size := Nat.lt_of_lt_of_le hz1 hB2.size)
    | (go_at_call 35; refine (ssum_any cs ([] ++ bys s) blk w2 hI (by rw [List.nil_append, bys_length]; omega) (Tab.below HK.out (hb1.trans (hB2.mono (Nat.le_of_lt hz1))) (Tab.lt HK.out))).mono ?_; rintro e w3 ⟨rfl, hB3⟩; rw [List.nil_append, HBS.out, ← HOO.out]; have hb3 := hb1.trans ((hB2.trans (hB3.mono hB2.size)).mono (Nat.le_of_lt hz1)); have hbl3 := Lib.hid (((HBL.out.drew.below hB1 hz0).below hB2 hz1).below hB3 hz2); have hstc := run_storeRow (P := Tryd.prog) hbl3.out O HSZ.out hone))
  all_goals
    clear hstc
    go_wp2_with fail
    exact bodyPost_ret (results_cell_row Tryd.results38 _ _ w.heap.size 78 _ (0, 0) _ rfl (setRow_heap w3 _ _ O _ (0, 0) hbl3.out) Tryd.underlying78 rfl (info_32u8.trans (congrArg some HSZ.out.symm))) rfl ⟨by rw [HOO.out], below_row hb3 (Nat.le_refl _) _⟩
end Go.Proofs.YtkjckmdiolgmcaaDoor
