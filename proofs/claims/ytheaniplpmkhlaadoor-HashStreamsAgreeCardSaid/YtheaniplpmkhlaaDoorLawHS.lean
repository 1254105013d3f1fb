/- HashStreamsAgree: for all pieces the law answers true and leaves its arguments as they were. Conditions: none beyond the row's own. -/
import Derived.Test.YtheaniplpmkhlaaDoorLawH
import Derived.Deep.CutBlock
import Derived.Test.YtheaniplpmkhlaaDoorStill
namespace Go.Proofs.YtheaniplpmkhlaaDoor
open Go.RowKit Go.WideShapes Go.ChangeShapes
theorem wp_load73 (dst : Option Tmp) (x : Operand) (ty : TypeId) (pos : String) (after) (guard) (a : Act) (w : World) (K : Act → World → Prop) (Q : Exit → Act → World → Prop) :
    Oper.wp Tryd.prog { dst := dst, op := Op.load 34 x, type := ty, pos := pos, after := after, guard := guard } a w K Q =
      match rowOf 73 w (a.eval x) with
      | some v => K (a.put dst v) w
      | none => wpBare Tryd.prog { dst := dst, op := Op.load 34 x, type := ty, pos := pos, after := after, guard := guard } a w K Q :=
  wp_load_of 34 73 Tryd.underlying34 rfl info_stream dst x ty pos after guard a w K Q
theorem catS_few (l : List ByteArray) (h : ∀ s ∈ l, s.size ≤ 400) : (catS l).length ≤ 400 * l.length := by
  induction l with
  | nil => simp [catS]
  | cons s r ih =>
    have h1 := h s (List.mem_cons_self ..)
    have h2 := ih fun x hx => h x (List.mem_cons_of_mem _ hx)
    simp only [catS, List.length_append, bys_length, List.length_cons]
    omega
theorem fewB_catS {l : List ByteArray} (h : fewB l = true) : l.length ≤ 12 ∧ (catS l).length ≤ 4800 := by
  have h2 := (fewB_iff l).1 h
  have h3 := catS_few l h2.2
  omega
theorem IsStream.len73 {cs : List Value} {m blk : List Int} (h : IsStream cs m blk) : cs.length = 73 := by
  have := h.size
  simpa using this
theorem IsStream.ones {cs : List Value} {m blk : List Int} (h : IsStream cs m blk) : ∀ v ∈ cs, v.oneCell' = true := fun v hv => Array.all_eq_true'.1 h.one v (by simpa using hv)
theorem IsStream.same {cs : List Value} {m m' blk : List Int} (h : IsStream cs m blk) (e : m = m') : IsStream cs m' blk := e ▸ h
theorem Rd.takeN {w : World} {B : Nat} {A : Option Addr} {n : Nat} {xs : List Value} (h : Rd w B A n xs) (t : Nat) (ht : t ≤ n) : Rd w B A t (xs.take t) := by
  refine ⟨by rw [List.length_take, h.1]; omega, fun h0 => ?_⟩
  obtain ⟨b, o, hA, hb, hc⟩ := h.2 (by omega)
  refine ⟨b, o, hA, hb, fun j u hu => hc j u ?_⟩
  have hj : j < t := by
    have := (List.getElem?_eq_some_iff.1 hu).1
    rw [List.length_take] at this; omega
  rwa [List.getElem?_take, if_pos hj] at hu
theorem strs_take (l : List ByteArray) (t : Nat) : strs (l.take t) = (strs l).take t := by simp [strs, List.map_take]
attribute [local go_sem ↓] wp_at_zero wp_at_succ wp_load73
set_option maxHeartbeats 16000000 in
set_option maxRecDepth 100000 in
theorem walk_str (l : List ByteArray) (A : Option Addr) (n c : Nat) (s : ByteArray) (x : Int) (w : World) (hl : Rd w w.heap.size A n (strs l)) (hn : n ≤ 9223372036854775807) (hnc : n ≤ c) (hc : c ≤ 9223372036854775807) (hs : s.size ≤ 9223372036854775807) (hx0 : 0 ≤ x) (hx1 : x ≤ 255) (hK : KTab w) (hR : RTab w) :
    Calls Tryd.prog 4 #[.slice A n c, .string s, .int .u8 x] w fun e w' => e = .returned (.bool true) ∧ Below w.heap.size w w' := by
  have hln : l.length = n := by simpa [strs] using hl.1
  have HLN := Lib.hid hln
  have HK := Lib.hid hK; have HR := Lib.hid hR; have HL := Lib.hid hl
  clear hK hR hl hln
  by_cases hf : fewB l = true
  · have HF := Lib.hid hf
    have hn12 : n ≤ 12 := by have := (fewB_catS hf).1; rw [HLN.out] at this; exact this
    have HC : Hid ((catS l).length ≤ 4800) := Lib.hid (fewB_catS hf).2
    clear hf
    by_cases hs4 : s.size ≤ 400
    · go_enter Tryd.func4, Tryd.ntmps4
      go_upto_region 5 with (first
        | (go_at_call 10; (with_reducible refine (sanity_any w HK.out).mono ?_); rintro e w1 ⟨rfl, hB⟩; have E1 : Hid (Ext w w1) := Lib.hid ((Ext.refl w).next hB); clear hB)
        | (go_at_call 13; (with_reducible refine (few_any l A n c w1 (HL.out.ext' E1.out) hn).mono ?_); rintro e w2 ⟨rfl, rfl⟩; rw [HF.out]))
      obtain ⟨k, hk⟩ : ∃ k : Nat, (k : Int) = x % ((n : Int) + 1) := ⟨(x % ((n : Int) + 1)).toNat, by have := Int.emod_nonneg x (show ((n : Int) + 1) ≠ 0 by omega); omega⟩
      have hkn : k ≤ n := by have := Int.emod_lt_of_pos x (show (0 : Int) < (n : Int) + 1 by omega); omega
      rw [← hk]
      clear hk
      obtain ⟨Z, hZ⟩ : ∃ Z, Z = zeroS := ⟨_, rfl⟩
      have hzr : ∀ W, (zeroValue 34).run Tryd.prog W = .ok (.agg Z.toArray) W := by rw [hZ]; exact zero_run
      have HZL : Hid (Z.length = 73) := Lib.hid (by rw [hZ]; rfl)
      clear hZ
      obtain ⟨I, hI⟩ : ∃ I, I = initS := ⟨_, rfl⟩
      have HI : Hid (IsStream I [] (List.replicate 64 0)) := Lib.hid (by rw [hI]; exact zero_stream)
      have HIE : Hid (initS = I) := Lib.hid hI.symm
      clear hI
      go_upto_region 6 with (first
        | (go_at_call 14; (with_reducible refine (begin_any w1).mono ?_); rintro e w2 ⟨rfl, hB⟩; rw [HIE.out]; have E2 : Hid (Ext w w2) := Lib.hid (E1.out.next hB); clear hB)
        | ((refine wpList_store_fresh rfl 34 (.tmp 9) (.tmp 32) rfl _ w2.heap.size rfl Z I 34 (by rfl) (by rfl) rfl (info_stream.trans (congrArg some HI.out.len73.symm)) (HZL.out.trans HI.out.len73.symm) HI.out.ones ?_); intro w3 hw hE hz; have E3 : Hid (Ext w w3) := Lib.hid (E2.out.next hE); have D9 := Lib.hid hw; obtain ⟨p9, hp9⟩ : ∃ p, p = w2.heap.size := ⟨_, rfl⟩; rw [← hp9] at D9 ⊢; have hg9 : w.heap.size ≤ p9 := (by rw [hp9]; exact E2.out.size); clear hp9 hw hE hz))
      have HL0 : Hid (catS (l.take 0) = []) := Lib.hid rfl
      go_wp2_with fail
      go_loopw [10] (fun i wr => ∃ (t : Nat) (cs : List Value) (blk : List Int), t ≤ k ∧ i = .int .i64 t ∧ Blk wr p9 34 cs ∧ IsStream cs (catS (l.take t)) blk ∧ Ext w wr) (fun i _ => k - (intOf i).toNat)
      case atStart => exact ⟨0, I, _, Nat.zero_le _, rfl, D9.out, HI.out.same HL0.out.symm, E3.out⟩
      case round =>
        obtain ⟨t, cs, blk, ht, rfl, hb, hI, hE⟩ := hrel
        have HB := Lib.hid hb; have HIS := Lib.hid hI; have HE := Lib.hid hE
        clear hb hI hE
        obtain ⟨wa, rfl⟩ : ∃ x : World, x = wr := ⟨_, rfl⟩
        by_cases hlt : t < k
        · obtain ⟨b, o, rfl, hbb, hcc⟩ := HL.out.2 (by omega)
          have c0 := (HE.out.cell (p := ⟨b, o + t, none⟩) hbb).trans (hcc t _ (strs_get l t (by rw [HLN.out]; omega)))
          have hT := catS_take l t (by rw [HLN.out]; omega)
          have hsz : (catS (l.take (t + 1))).length ≤ 4800 := Nat.le_trans (catS_take_le l (t + 1)) HC.out
          rw [hT, List.length_append, bys_length] at hsz
          have HT := Lib.hid hT
          clear hcc hT
          generalize l.getD t ByteArray.empty = u at *
          obtain ⟨O, hO⟩ : ∃ O, O = cs := ⟨_, rfl⟩
          obtain ⟨wd, hwd⟩ : ∃ x, x = wa.drew := ⟨_, rfl⟩
          have cd : wd.cell? ⟨b, o + t, none⟩ = some (.string u) := by rw [hwd]; exact c0
          have HBD : Hid (Blk wd p9 34 cs) := Lib.hid (by rw [hwd]; exact HB.out.drew)
          have HED : Hid (Ext w wd) := Lib.hid (by rw [hwd]; exact HE.out.drew)
          clear c0
          go_upto_region 9 with fail
          refine wp_region_still_tail 5 (by kernel_rfl) (by kernel_rfl) ?_
          simp only [List.take_succ_cons, List.take_zero, List.drop_succ_cons, List.drop_zero]
          change wpStill _ _ wa.drew (fun a' => wpList _ _ _ _ a' wa.drew) _ _
          rw [← hwd]
          clear hwd
          refine still_load_blk (by rfl) 34 (.tmp 9) rfl p9 rfl HBD.out Tryd.underlying34 rfl (info_stream.trans (congrArg some HIS.out.len73.symm)) ?_
          have htn : t < n := by omega
          repeat still_step
          refine wpStill_nil ?_
          obtain ⟨O, hO⟩ : ∃ O, O = cs.toArray := ⟨_, rfl⟩
          go_wp2_with (first
            | (go_at_call 15; (with_reducible refine (add_any cs (catS (l.take t)) blk u wd HIS.out (by omega) (HK.out.below HED.out)).mono ?_); rintro e w4 ⟨⟨cs4, blk4, rfl, hI⟩, hB⟩; have HIS4 := Lib.hid hI; have HB4 := Lib.hid (HBD.out.ext hB); have HE4 : Hid (Ext w w4) := Lib.hid (HED.out.next hB); clear hB hI)
            | (refine wpList_store_blk rfl 34 (.tmp 9) (.tmp 43) rfl p9 cs4 rfl rfl HB4.out (info_stream.trans (congrArg some HIS4.out.len73.symm)) (HIS.out.len73.trans HIS4.out.len73.symm) HIS4.out.ones ?_; intro w5 hw5 hb5))
          exact ⟨⟨t + 1, cs4, blk4, by omega, by go_num, hb5, HIS4.out.same HT.out.symm, by rw [hw5.out]; exact HE4.out.setRow hg9 _⟩, by simp [intOf]; omega⟩
        · obtain rfl : t = k := by omega
          clear D9 HI HL0 E3 E2
          go_upto_region 11 with (first
            | (refine wpList_load_blk rfl 34 (.tmp 9) rfl p9 rfl HB.out Tryd.underlying34 rfl (info_stream.trans (congrArg some HIS.out.len73.symm)) ?_)
            | ((refine wpList_store_fresh rfl 34 (.tmp 11) (.tmp 44) rfl _ wa.heap.size rfl Z cs 34 (by rfl) (by rfl) rfl (info_stream.trans (congrArg some HIS.out.len73.symm)) (HZL.out.trans HIS.out.len73.symm) HIS.out.ones ?_); intro w6 hw hE hz; have E6 : Hid (Ext w w6) := Lib.hid (HE.out.next hE); have D11 := Lib.hid hw; obtain ⟨p11, hp11⟩ : ∃ p, p = wa.heap.size := ⟨_, rfl⟩; rw [← hp11] at D11 ⊢; have hg11 : w.heap.size ≤ p11 := (by rw [hp11]; exact HE.out.size); have D9_6 := Lib.hid (HB.out.ext hE); have hne : p9 < p11 := (by rw [hp11]; exact HB.out.lt); clear hp11 hw hE hz))
          obtain ⟨csE, hcsE⟩ : ∃ c, c = cs := ⟨_, rfl⟩
          obtain ⟨blkE, hblkE⟩ : ∃ c, c = blk := ⟨_, rfl⟩
          have HISE : Hid (IsStream csE (catS (l.take t)) blkE) := Lib.hid (by rw [hcsE, hblkE]; exact HIS.out)
          rw [← hcsE] at D11
          clear hcsE hblkE HB HE
          go_wp2_with fail
          go_loopw [12] (fun i wr => ∃ (q : Nat) (cs : List Value) (blk : List Int), t ≤ q ∧ q ≤ n ∧ i = .int .i64 q ∧ Blk wr p9 34 cs ∧ IsStream cs (catS (l.take q)) blk ∧ Blk wr p11 34 csE ∧ Ext w wr) (fun i _ => n - (intOf i).toNat)
          case atStart => exact ⟨t, cs, blk, Nat.le_refl _, by omega, rfl, D9_6.out, HIS.out, D11.out, E6.out⟩
          case round =>
            clear HIS D9_6 D11 E6
            obtain ⟨q, cs, blk, hq0, hq, rfl, hb, hI, hbE, hE⟩ := hrel
            have HB := Lib.hid hb; have HIS := Lib.hid hI; have HE := Lib.hid hE; have HBE := Lib.hid hbE
            clear hb hI hE hbE
            obtain ⟨wa, rfl⟩ : ∃ x : World, x = wr := ⟨_, rfl⟩
            by_cases hlt : q < n
            · obtain ⟨b, o, rfl, hbb, hcc⟩ := HL.out.2 (by omega)
              have c0 := (HE.out.cell (p := ⟨b, o + q, none⟩) hbb).trans (hcc q _ (strs_get l q (by rw [HLN.out]; omega)))
              have hT := catS_take l q (by rw [HLN.out]; omega)
              have hsz : (catS (l.take (q + 1))).length ≤ 4800 := Nat.le_trans (catS_take_le l (q + 1)) HC.out
              rw [hT, List.length_append, bys_length] at hsz
              have HT := Lib.hid hT
              clear hcc hT
              generalize l.getD q ByteArray.empty = u at *
              obtain ⟨wd, hwd⟩ : ∃ x, x = wa.drew := ⟨_, rfl⟩
              have cd : wd.cell? ⟨b, o + q, none⟩ = some (.string u) := by rw [hwd]; exact c0
              have HBD : Hid (Blk wd p9 34 cs) := Lib.hid (by rw [hwd]; exact HB.out.drew)
              have HBED : Hid (Blk wd p11 34 csE) := Lib.hid (by rw [hwd]; exact HBE.out.drew)
              have HED : Hid (Ext w wd) := Lib.hid (by rw [hwd]; exact HE.out.drew)
              clear c0
              go_upto_region 14 with fail
              refine wp_region_still_tail 5 (by kernel_rfl) (by kernel_rfl) ?_
              simp only [List.take_succ_cons, List.take_zero, List.drop_succ_cons, List.drop_zero]
              change wpStill _ _ wa.drew (fun a' => wpList _ _ _ _ a' wa.drew) _ _
              rw [← hwd]
              clear hwd
              refine still_load_blk (by rfl) 34 (.tmp 9) rfl p9 rfl HBD.out Tryd.underlying34 rfl (info_stream.trans (congrArg some HIS.out.len73.symm)) ?_
              repeat still_step
              refine wpStill_nil ?_
              go_wp2_with (first
                | (go_at_call 15; (with_reducible refine (add_any cs (catS (l.take q)) blk u wd HIS.out (by omega) (HK.out.below HED.out)).mono ?_); rintro e w4 ⟨⟨cs4, blk4, rfl, hI⟩, hB⟩; have HIS4 := Lib.hid hI; have HB4 := Lib.hid (HBD.out.ext hB); have HBE4 := Lib.hid (HBED.out.ext hB); have HE4 : Hid (Ext w w4) := Lib.hid (HED.out.next hB); clear hB hI)
                | (refine wpList_store_blk rfl 34 (.tmp 9) (.tmp 57) rfl p9 cs4 rfl rfl HB4.out (info_stream.trans (congrArg some HIS4.out.len73.symm)) (HIS.out.len73.trans HIS4.out.len73.symm) HIS4.out.ones ?_; intro w5 hw5 hb5))
              exact ⟨⟨q + 1, cs4, blk4, by omega, by omega, by go_num, hb5, HIS4.out.same HT.out.symm, by rw [hw5.out]; exact HBE4.out.setRow_far (by omega) _, by rw [hw5.out]; exact HE4.out.setRow hg9 _⟩, by simp [intOf]; omega⟩
            · obtain rfl : q = n := by omega
              have hMl : catS (l.take q) = catS l := by rw [List.take_of_length_le (by rw [HLN.out]; exact Nat.le_refl _)]
              have HIS9 : Hid (IsStream cs (catS l) blk) := Lib.hid (HIS.out.same hMl)
              clear hMl HIS
              obtain ⟨M, hM⟩ : ∃ M, M = catS l := ⟨_, rfl⟩
              obtain ⟨H, hH⟩ : ∃ H, H = catS (l.take t) := ⟨_, rfl⟩
              have HM := Lib.hid hM.symm; have HH := Lib.hid hH.symm
              have hMs : M.length ≤ 4800 := by rw [hM]; exact HC.out
              have hHs : H.length ≤ 4800 := by rw [hH]; exact Nat.le_trans (catS_take_le l t) HC.out
              have HMB : Hid (Byt M) := Lib.hid (by rw [hM]; exact catS_byt l)
              have HHB : Hid (Byt H) := Lib.hid (by rw [hH]; exact catS_byt _)
              obtain ⟨F, hF⟩ : ∃ F, F = H ++ bys s := ⟨_, rfl⟩
              have HHF : Hid (Byt F) := Lib.hid (by rw [hF]; exact HHB.out.app (bys_byt s))
              have I9 : Hid (IsStream cs M blk) := Lib.hid (by rw [hM]; exact HIS9.out)
              have IE : Hid (IsStream csE H blkE) := Lib.hid (by rw [hH]; exact HISE.out)
              clear hM hH HIS9 HISE
              obtain ⟨S1, hS1⟩ : ∃ S, S = strOf M := ⟨_, rfl⟩
              obtain ⟨S2, hS2⟩ : ∃ S, S = strOf H := ⟨_, rfl⟩
              have HS1 : Hid (strOf M = S1) := Lib.hid hS1.symm
              have HS2 : Hid (strOf H = S2) := Lib.hid hS2.symm
              have HB1 : Hid (bys S1 = M) := Lib.hid (by rw [hS1]; exact bys_strOf M HMB.out)
              have HB2 : Hid (bys S2 = H) := Lib.hid (by rw [hS2]; exact bys_strOf H HHB.out)
              have HZ1 : Hid (S1.size = M.length) := Lib.hid (by rw [hS1, strOf_size])
              have HB3 : Hid (bys (S2 ++ s) = F) := Lib.hid (by rw [bys_append, HB2.out, hF])
              have HZ3 : Hid ((S2 ++ s).size = F.length) := Lib.hid (by rw [← HB3.out, bys_length])
              have HZ2 : Hid (S2.size = H.length) := Lib.hid (by rw [hS2, strOf_size])
              have hz2 : ¬ 9223372036854775807 < S2.size + s.size := by rw [HZ2.out]; omega
              clear hS1 hS2
              obtain ⟨X1, hX1⟩ : ∃ X, X = sha M := ⟨_, rfl⟩
              obtain ⟨X2, hX2⟩ : ∃ X, X = sha H := ⟨_, rfl⟩
              obtain ⟨X3, hX3⟩ : ∃ X, X = sha F := ⟨_, rfl⟩
              have HX1 := Lib.hid hX1.symm; have HX2 := Lib.hid hX2.symm; have HX3 := Lib.hid hX3.symm
              have HEQ : ∀ L, Hid (∀ W, (Op.equalIn 10000 24 (.agg (u8s (sha L)).toArray) (.agg (u8s (sha L)).toArray)).run Tryd.prog W = .ok true W) := fun L => Lib.hid (fun W => by
                have := run_equalIn_u8s (P := Tryd.prog) W 9998 24 5 32 Tryd.underlying24 Tryd.underlying5 (fun _ => by kernel_rfl) (sha L) (sha L) (sha_byt _) (sha_byt _) (sha_length _) (sha_length _)
                rw [this, decide_eq_true rfl])
              have q1 := (HEQ M).out
              have q2 := (HEQ H).out
              have q3 := (HEQ F).out
              rw [← hX1] at q1
              rw [← hX2] at q2
              rw [← hX3] at q3
              have hFs : F.length ≤ 5200 := by rw [hF, List.length_append, bys_length]; omega
              have hFs2 : H.length + s.size ≤ 4611686018427387904 := by omega
              have HF := Lib.hid hF
              clear hX1 hX2 hX3 HEQ hF
              go_upto_region 16 with (first
                | (refine wpList_load_blk rfl 34 (.tmp 11) rfl p11 rfl HBE.out Tryd.underlying34 rfl (info_stream.trans (congrArg some IE.out.len73.symm)) ?_)
                | (go_at_call 15; (with_reducible refine (add_any csE H blkE s wa IE.out hFs2 (HK.out.below HE.out)).mono ?_); rintro e w7 ⟨⟨cs7, blk7, rfl, hI⟩, hB⟩; have I7 := Lib.hid (hI.same HF.out.symm); have E7 : Hid (Ext w w7) := Lib.hid (HE.out.next hB); have B9_7 := Lib.hid (HB.out.ext hB); have BE_7 := Lib.hid (HBE.out.ext hB); clear hB hI)
                | ((refine wpList_store_fresh rfl 34 (.tmp 13) (.tmp 60) rfl _ w7.heap.size rfl Z cs7 34 (by rfl) (by rfl) rfl (info_stream.trans (congrArg some I7.out.len73.symm)) (HZL.out.trans I7.out.len73.symm) I7.out.ones ?_); intro w8 hw hE hz; have E8 : Hid (Ext w w8) := Lib.hid (E7.out.next hE); have D13 := Lib.hid hw; obtain ⟨p13, hp13⟩ : ∃ p, p = w7.heap.size := ⟨_, rfl⟩; rw [← hp13] at D13 ⊢; have B9_8 := Lib.hid (B9_7.out.ext hE); have BE_8 := Lib.hid (BE_7.out.ext hE); clear hp13 hw hE hz))
              clear hzr
              have RT : Hid (Rd w8 w8.heap.size A t (strs (l.take t))) := Lib.hid (by rw [strs_take]; exact (HL.out.ext' E8.out).takeN t (by omega))
              have htq : t ≤ q := by omega
              go_upto_region 17 with (go_at_call 16; (with_reducible refine (joined_any l A q c w8 (HL.out.ext' E8.out) hn (by have := HC.out; omega)).mono ?_); rintro e wj ⟨rfl, rfl⟩; rw [HM.out, HS1.out])
              go_cut [15] (fun s15 wx => s15 = .string S2 ∧ wx = w8)
              case first =>
                rcases A with _ | a
                all_goals (
                  go_wp2_with (go_at_call 16; (with_reducible refine (joined_any (l.take t) _ t c w8 RT.out (by omega) (by have := Nat.le_trans (catS_take_le l t) HC.out; omega)).mono ?_); rintro e wj ⟨rfl, rfl⟩; rw [HH.out, HS2.out])
                  go_meet
                  case rel => exact ⟨rfl, rfl⟩)
              case rest =>
                obtain ⟨rfl, hwc⟩ := hcut
                subst hwc
                obtain ⟨w8, rfl⟩ : ∃ x : World, x = wc := ⟨_, rfl⟩
                have F8 : Hid (Ext w8 w8) := Lib.hid (Ext.refl _)
                go_wp2_with (first
                | (refine wpList_load_want (by rfl) 34 (.tmp 9) (by rfl) p9 (by rfl) (B9_8.out.ext F14.out) Tryd.underlying34 rfl (info_stream.trans (congrArg some I9.out.len73.symm)) ?_)
                | (refine wpList_load_want (by rfl) 34 (.tmp 9) (by rfl) p9 (by rfl) (B9_8.out.ext F8.out) Tryd.underlying34 rfl (info_stream.trans (congrArg some I9.out.len73.symm)) ?_)
                | (go_at_call_of 17 (Value.agg cs.toArray); (with_reducible refine (ssum_any cs (M) blk w14 I9.out (by omega) (HK.out.below (E8.out.next F14.out))).mono ?_); rintro e w15 ⟨rfl, hB⟩; rw [HX1.out]; have F15 : Hid (Ext w8 w15) := Lib.hid (F14.out.next hB); clear hB; obtain ⟨cbw15, bw15, hcbw15, hRb, hBb⟩ := run_toBytes (P := Tryd.prog) w15 9 22 5 (S1) Tryd.underlying9 Tryd.underlying22 Tryd.underlying5; rw [HB1.out, HZ1.out] at hRb; rw [HZ1.out] at hcbw15; have Rw15 := Lib.hid hRb; have Fbw15 : Hid (Ext w8 bw15) := Lib.hid (F15.out.next hBb); clear hRb hBb)
                | (go_at_call_of 17 (Value.agg cs.toArray); (with_reducible refine (ssum_any cs (M) blk w8 I9.out (by omega) (HK.out.below (E8.out.next F8.out))).mono ?_); rintro e w9 ⟨rfl, hB⟩; rw [HX1.out]; have F9 : Hid (Ext w8 w9) := Lib.hid (F8.out.next hB); clear hB; obtain ⟨cbw9, bw9, hcbw9, hRb, hBb⟩ := run_toBytes (P := Tryd.prog) w9 9 22 5 (S1) Tryd.underlying9 Tryd.underlying22 Tryd.underlying5; rw [HB1.out, HZ1.out] at hRb; rw [HZ1.out] at hcbw9; have Rw9 := Lib.hid hRb; have Fbw9 : Hid (Ext w8 bw9) := Lib.hid (F9.out.next hBb); clear hRb hBb)
                | (go_at_call_of 12 (Value.slice (some ⟨w9.heap.size, 0, none⟩) (M).length cbw9); (with_reducible refine (rsum_any (M) _ (M).length cbw9 bw9 Rw9.out HMB.out (by omega) (HR.out.below (E8.out.next Fbw9.out))).mono ?_); rintro e w10 ⟨rfl, hB⟩; rw [HX1.out]; have F10 : Hid (Ext w8 w10) := Lib.hid (Fbw9.out.next hB); clear hB hcbw9)
                | (refine wpList_load_want (by rfl) 34 (.tmp 11) (by rfl) p11 (by rfl) (BE_8.out.ext F10.out) Tryd.underlying34 rfl (info_stream.trans (congrArg some IE.out.len73.symm)) ?_)
                | (go_at_call_of 17 (Value.agg csE.toArray); (with_reducible refine (ssum_any csE (H) blkE w10 IE.out (by omega) (HK.out.below (E8.out.next F10.out))).mono ?_); rintro e w11 ⟨rfl, hB⟩; rw [HX2.out]; have F11 : Hid (Ext w8 w11) := Lib.hid (F10.out.next hB); clear hB; obtain ⟨cbw11, bw11, hcbw11, hRb, hBb⟩ := run_toBytes (P := Tryd.prog) w11 9 22 5 (S2) Tryd.underlying9 Tryd.underlying22 Tryd.underlying5; rw [HB2.out, HZ2.out] at hRb; rw [HZ2.out] at hcbw11; have Rw11 := Lib.hid hRb; have Fbw11 : Hid (Ext w8 bw11) := Lib.hid (F11.out.next hBb); clear hRb hBb)
                | (go_at_call_of 12 (Value.slice (some ⟨w11.heap.size, 0, none⟩) (H).length cbw11); (with_reducible refine (rsum_any (H) _ (H).length cbw11 bw11 Rw11.out HHB.out (by omega) (HR.out.below (E8.out.next Fbw11.out))).mono ?_); rintro e w12 ⟨rfl, hB⟩; rw [HX2.out]; have F12 : Hid (Ext w8 w12) := Lib.hid (Fbw11.out.next hB); clear hB hcbw11)
                | (refine wpList_load_want (by rfl) 34 (.tmp 13) (by rfl) p13 (by rfl) (D13.out.ext F12.out) Tryd.underlying34 rfl (info_stream.trans (congrArg some I7.out.len73.symm)) ?_)
                | (go_at_call_of 17 (Value.agg cs7.toArray); (with_reducible refine (ssum_any cs7 (F) blk7 w12 I7.out (by omega) (HK.out.below (E8.out.next F12.out))).mono ?_); rintro e w13 ⟨rfl, hB⟩; rw [HX3.out]; have F13 : Hid (Ext w8 w13) := Lib.hid (F12.out.next hB); clear hB; obtain ⟨cbw13, bw13, hcbw13, hRb, hBb⟩ := run_toBytes (P := Tryd.prog) w13 9 22 5 (S2 ++ s) Tryd.underlying9 Tryd.underlying22 Tryd.underlying5; rw [HB3.out, HZ3.out] at hRb; rw [HZ3.out] at hcbw13; have Rw13 := Lib.hid hRb; have Fbw13 : Hid (Ext w8 bw13) := Lib.hid (F13.out.next hBb); clear hRb hBb)
                | (go_at_call_of 12 (Value.slice (some ⟨w13.heap.size, 0, none⟩) F.length cbw13); (with_reducible refine (rsum_any F _ F.length cbw13 bw13 Rw13.out HHF.out (by omega) (HR.out.below (E8.out.next Fbw13.out))).mono ?_); rintro e w14 ⟨rfl, hB⟩; rw [HX3.out]; have F14 : Hid (Ext w8 w14) := Lib.hid (Fbw13.out.next hB); clear hB hcbw13)
                | (go_at_call_of 11 (Value.slice (some ⟨w15.heap.size, 0, none⟩) (M).length cbw15); (with_reducible refine (sum_any (M) _ (M).length cbw15 bw15 Rw15.out HMB.out (by omega) (HK.out.below (E8.out.next Fbw15.out))).mono ?_); rintro e w16 ⟨rfl, hB⟩; rw [HX1.out]; have F16 : Hid (Ext w8 w16) := Lib.hid (Fbw15.out.next hB); clear hB hcbw15))
                go_ret
                exact ⟨rfl, E8.out.next F16.out⟩
    · go_enter Tryd.func4, Tryd.ntmps4
      go_wp2_with (first
        | (go_at_call 10; (with_reducible refine (sanity_any w HK.out).mono ?_); rintro e w1 ⟨rfl, hB⟩; have E1 : Hid (Ext w w1) := Lib.hid ((Ext.refl w).next hB); clear hB)
        | (go_at_call 13; (with_reducible refine (few_any l A n c w1 (HL.out.ext' E1.out) hn).mono ?_); rintro e w2 ⟨rfl, rfl⟩; rw [HF.out]))
      go_ret
      exact ⟨rfl, E1.out⟩
  · have HF : Hid (fewB l = false) := Lib.hid (by simpa using hf)
    clear hf
    go_enter Tryd.func4, Tryd.ntmps4
    go_wp2_with (first
      | (go_at_call 10; (with_reducible refine (sanity_any w HK.out).mono ?_); rintro e w1 ⟨rfl, hB⟩; have E1 : Hid (Ext w w1) := Lib.hid ((Ext.refl w).next hB); clear hB)
      | (go_at_call 13; (with_reducible refine (few_any l A n c w1 (HL.out.ext' E1.out) hn).mono ?_); rintro e w2 ⟨rfl, rfl⟩; rw [HF.out]))
    go_ret
    exact ⟨rfl, E1.out⟩
namespace fnHashStreamsAgree
theorem params_hashStreamsAgree : (Tryd.f4.params.toList.all fun t => Tryd.prog.readableRec t && decide (t < Tryd.prog.types.size)) = true := by kernel_rfl
theorem contract (H : Type) (enc : TypeId × Value → H) (W : World) (base : Nat) (args : Array Value) (ds gs : List (DataW H)) (before : List MemPlace)
    (hval : ∀ (j : Nat) t v, Tryd.f4.params[j]? = some t → args[j]? = some v → Value.okWide Tryd.prog W .any base t v)
    (hW : DataW.Whole enc Tryd.prog Tryd.f4.params.toList Rows.hashStreamsAgreeSpec.vars false W args.toList ds gs before) (hL : laidMetH Tryd.prog Rows.hashStreamsAgreeRow.laid W) :
    Calls Tryd.prog 4 args W fun e W' => ∃ v, e = .returned v ∧ Rows.hashStreamsAgreeSpec.post enc Tryd.prog Tryd.f4 false true false false W args v W' := by
  have hW' := hW
  obtain ⟨p, q, hA0, _, _, _, _⟩ := hW
  have hA : DataW.TrodAll enc Tryd.prog W 0 (fun _ => true) true Tryd.f4.params.toList args.toList ds p := hA0
  rw [Tryd.params4] at hA hval
  obtain ⟨v0, vs0, d0, ds0, p0, q0, hargs, e0d, e0p, h0, r0⟩ := trodAll_cons hA
  obtain ⟨v1, vs1, d1, ds1, p1, q1, e1, e1d, e1p, h1, r1⟩ := trodAll_cons r0
  obtain ⟨v2, vs2, d2, ds2, p2, q2, e2, e2d, e2p, h2, r2⟩ := trodAll_cons r1
  obtain ⟨en1, en2, en3⟩ := trodAll_nil r2
  obtain rfl : args = #[v0, v1, v2] := by cases args; simp_all
  clear hA hA0
  obtain ⟨A, n, c, l, rfl, hR, hwf, hnc, hcm⟩ := open_strl Tryd.underlying27 Tryd.underlying9 cellsstr (hval 0 _ v0 rfl rfl) h0
  obtain ⟨s0, rfl, _, _, hs0⟩ := ChangeMaps.open_string Tryd.underlying9 (hval 1 _ v1 rfl rfl) h1
  obtain ⟨x, rfl, _, _, hx⟩ := open_int Tryd.underlying5 (hval 2 _ v2 rfl rfl) h2
  have hx2 : 0 ≤ x ∧ x ≤ 255 := by simp [Lit.wf, IntKind.min, IntKind.max, IntKind.bits, IntKind.signed] at hx; omega
  have hz0 : s0.size ≤ 9223372036854775807 := by unfold maxLen at hs0; omega
  have hcc : c ≤ 9223372036854775807 := by unfold maxLen at hcm; omega
  have hn : n ≤ 9223372036854775807 := by omega
  refine (walk_str l A n c s0 x W hR hn hnc hcc hz0 hx2.1 hx2.2 (laid_k (laidMet.filter (fun x => x.1 == "splicery/hash.constants") hL)) (laid_r hL)).mono fun e W' ⟨he, hg⟩ => ⟨_, he, ?_⟩
  exact post_law hW' laidOut (params_ok params_hashStreamsAgree) 4 rfl Tryd.underlying4 rfl (fun ds h => by
    rw [Tryd.params4] at h
    match ds, h with
    | [_, _, _], _ => rfl) hg
noncomputable def laidWorld (os : Os) : World :=
  { World.holding Tryd.prog os ⟨#[], #[], []⟩ with heap := (((World.holding Tryd.prog os ⟨#[], #[], []⟩).heap.modify 0 fun
      | .cells _ t frozen => .cells (u32s kc).toArray t frozen
      | o => o).modify 1 fun
      | .cells _ t frozen => .cells (u32s kc).toArray t frozen
      | o => o) }
theorem laid_met (os : Os) : laidMet Tryd.prog Rows.hashStreamsAgreeRow.laid ((laidWorld os).forCall (fun _ _ => 0) ⟨#[], #[.slice none 0 0, .string ByteArray.empty, .int .u8 0], []⟩).memory :=
  laidMet_of_run' 8 (by kernel_rfl) (by kernel_rfl)
theorem reads (os : Os) {H : Type} (enc : TypeId × Value → H) : ∃ places, DataW.whole enc Tryd.prog ((laidWorld os).forCall (fun _ _ => 0) ⟨#[], #[.slice none 0 0, .string ByteArray.empty, .int .u8 0], []⟩).memory Tryd.f4.params.toList Rows.hashStreamsAgreeSpec.vars false (#[.slice none 0 0, .string ByteArray.empty, .int .u8 0] : Array Value).toList 8 = some ([.nil, .lit (.string []), .lit (.int .u8 0)], [], places) :=
  ⟨[], by kernel_rfl⟩
set_option maxRecDepth 100000 in
theorem lifted (os : Os) (started : os.Started) (H : Type) (enc : TypeId × Value → H) (F : Stop.Interp) :
    ReturnsInHanded {} Tryd.checked os 4 .any ((OpenSpec.ofChange Rows.hashStreamsAgreeSpec).preRow enc Tryd.prog Tryd.f4 Rows.hashStreamsAgreeRow.domain false Rows.hashStreamsAgreeRow.laid) (((OpenSpec.ofChange Rows.hashStreamsAgreeSpec).at F).post enc Tryd.prog Tryd.f4 false true false false) := by
  obtain ⟨places, hx⟩ := reads os enc
  refine returnsInHanded_of_row (C := Tryd.checked) (s := OpenSpec.ofChange Rows.hashStreamsAgreeSpec) own started (by kernel_rfl) Tryd.func4
    (witness_row_at (enc := enc) (C := Tryd.checked) false (laidWorld os) #[.slice none 0 0, .string ByteArray.empty, .int .u8 0] rfl (by kernel_rfl) (by kernel_rfl) (by kernel_rfl)
      (OpenSpec.preRow_of_cond 8 hx (by kernel_rfl) (fun k hk => by cases hk) (by kernel_rfl) (laid_met os))) ?_
  intro W base args ds gs before hval hW _ _ _ hL _ _
  exact contract H enc W base args ds gs before hval hW hL
theorem said : Rows.HashStreamsAgreeSaid :=
  OpenClaim.holds_of_cond 4 Tryd.f4 rfl rfl rfl rfl rfl rfl rfl ⟨rfl, rfl, rfl, rfl, rfl⟩ rfl rfl rfl rfl rfl (by kernel_rfl) Tryd.func4 (by kernel_rfl)
    (of_decide_eq_true (by kernel_rfl)) (by unfold Func.isWrapper; first | (rw [if_pos (by decide +kernel)]; kernel_rfl) | (rw [if_neg (by decide +kernel)]; exact ⟨rfl, rfl⟩))
    (fun os started H enc _ F => by rw [OpenClaim.pre_eq_preRow]; exact lifted os started H enc F)
theorem plain (f : FuncId) (fn : Func) (hf : Tryd.pinned.checked.prog.funcNamed "splicery/splicerylaw02.HashStreamsAgree" = some f) (hfn : Tryd.pinned.checked.prog.funcs[f]? = some fn) :
    false = Tryd.pinned.checked.prog.looks [] ∧ ∀ (j : Nat) t, fn.params[j]? = some t → Tryd.pinned.checked.prog.wantsStandIn t = false := by
  obtain rfl : f = 4 := Option.some.inj ((show Tryd.prog.funcNamed "splicery/splicerylaw02.HashStreamsAgree" = some 4 by kernel_rfl).symm.trans hf) |>.symm
  obtain rfl : fn = Tryd.f4 := (Option.some.inj (Tryd.func4.symm.trans hfn)).symm
  refine ⟨by kernel_rfl, fun j t ht => ?_⟩
  rw [Tryd.params4] at ht
  have := Array.mem_of_getElem? ht
  simp only [List.mem_toArray, List.mem_cons, List.not_mem_nil, or_false] at this
  rcases this with rfl | rfl | rfl
  · exact (show Tryd.prog.wantsStandIn 27 = false by kernel_rfl)
  · exact (show Tryd.prog.wantsStandIn 9 = false by kernel_rfl)
  · exact (show Tryd.prog.wantsStandIn 5 = false by kernel_rfl)
theorem card : Rows.HashStreamsAgreeCardSaid :=
  Claim7.holds_tied_plain_at .later [] _ _ _ _ said (fun _ h => by cases h) (by kernel_rfl) (fun _ h => by cases h) hashStreamsAgree_row_tie rfl ⟨rfl, rfl⟩ (by kernel_rfl) rfl plain (by kernel_rfl)
end fnHashStreamsAgree
#print axioms fnHashStreamsAgree.card
end Go.Proofs.YtheaniplpmkhlaaDoor
