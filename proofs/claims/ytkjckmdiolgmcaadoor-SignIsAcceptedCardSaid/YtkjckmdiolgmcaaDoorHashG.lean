/- The walk of hash.Of. No condition. -/
import Derived.Test.YtkjckmdiolgmcaaDoorHashF
set_option linter.unusedSimpArgs false
set_option linter.unusedVariables false
namespace Go.Proofs.YtkjckmdiolgmcaaDoor
open Go.RowKit
/-- A whole row, read at a pointer. -/
def rowAt (n : Nat) (w : World) (v : Value) : Option Value :=
  match v with
  | .pointer (some ⟨g, 0, none⟩) => (match w.heap[g]? with | some (.cells cs _ _) => if cs.size = n then some (.agg cs) else none | _ => none)
  | _ => none
def wpPlain (P : Program) (o : Oper) (a : Act) (w : World) (K : Act → World → Prop) (Q : Exit → Act → World → Prop) : Prop := Oper.wp P o a w K Q
theorem Blk.rowAt {w : World} {g : Nat} {t : TypeId} {cs : List Value} (h : Blk w g t cs) {n : Nat} (hn : cs.toArray.size = n) : rowAt n w (.pointer (some ⟨g, 0, none⟩)) = some (.agg cs.toArray) := by
  unfold Blk at h
  simp only [Go.Proofs.YtkjckmdiolgmcaaDoor.rowAt, h, if_pos hn]
theorem wp_loadStream (dst : Option Tmp) (x : Operand) (ty : TypeId) (pos : String) (after) (guard) (a : Act) (w : World) (K : Act → World → Prop) (Q : Exit → Act → World → Prop) :
    Oper.wp Tryd.prog { dst := dst, op := Op.load 74 x, type := ty, pos := pos, after := after, guard := guard } a w K Q =
      match rowAt 73 w (a.eval x) with
      | some v => K (a.put dst v) w
      | none => wpPlain Tryd.prog { dst := dst, op := Op.load 74 x, type := ty, pos := pos, after := after, guard := guard } a w K Q := by
  cases h : rowAt 73 w (a.eval x) with
  | none => rfl
  | some v =>
    unfold rowAt at h
    split at h
    · rename_i g hx
      split at h
      · rename_i cs t fr hg
        split at h
        · rename_i hs
          injection h with h; subst h
          unfold Oper.wp execOp
          simp only [hx, Instr.loadAt, Instr.sureAddr, Sem.run_bind, Sem.run_pure, Result.andThen_ok, run_loadVar_row w g t 74 cs fr _ hg Tryd.underlying74 rfl (info_stream.trans (congrArg some hs.symm))]
          rfl
        · cases h
      · cases h
    · cases h
attribute [local go_sem ↓] wp_at_zero wp_at_succ wp_loadStream
set_option maxHeartbeats 8000000 in
set_option maxRecDepth 100000 in
theorem of_any (tag : Int) (l : List ByteArray) (A : Option Addr) (n c : Nat) (w : World) (hl : Rd w w.heap.size A n (strs l)) (hn : n ≤ 9223372036854775807) (hcat : (encs l).length ≤ 100000000000) (hK : KTab w) :
    Calls Tryd.prog 26 #[.int .i64 tag, .slice A n c] w fun e w' => e = .returned (.agg (u8s ((sha (inputB tag l)).take 16)).toArray) ∧ Below w.heap.size w w' := by
  have HL := Lib.hid hl; have HK := Lib.hid hK
  have HBY := Lib.hid (inputB_byt tag l (by omega))
  have hlen : (inputB tag l).length ≤ 1000000000000 := by simp only [inputB, List.length_cons]; omega
  obtain ⟨V, hV⟩ : ∃ V, V = u8s ((sha (inputB tag l)).take 16) := ⟨_, rfl⟩
  have HSZ : Hid (V.toArray.size = 16) := Lib.hid (by rw [hV]; simp [u8s, sha_length])
  have HONE : Hid (V.toArray.all (·.oneCell') = true) := Lib.hid (by rw [hV]; exact u8s_all _)
  have HV := Lib.hid hV
  clear hl hK hV
  go_enter Tryd.func26, Tryd.ntmps26
  go_upto_region 1 with (fail)
  obtain ⟨w0, hw0⟩ : ∃ w0, w0 = w.alloc (.cells (u8s (List.replicate 16 0)).toArray 23) := ⟨_, rfl⟩
  have hbl : Blk w0 w.heap.size 23 (u8s (List.replicate 16 0)) := by rw [hw0]; exact Blk.fresh _ _ _
  have hB0 : Below w.heap.size w w0 := by rw [hw0]; exact (Below.refl _ _).alloc (Nat.le_refl _) _
  have hz0 : w.heap.size < w0.heap.size := hbl.lt
  change Code.wp _ _ _ _ (w.alloc (.cells (u8s (List.replicate 16 0)).toArray 23))
  rw [← hw0]
  have HK0 : Hid (KTab w0) := Lib.hid (Tab.below HK.out hB0 (Tab.lt HK.out))
  clear hw0
  go_cut [5] (fun s5 wx => ∃ p5 cs blk, s5 = .pointer (some ⟨p5, 0, none⟩) ∧ w0.heap.size ≤ p5 ∧ Blk wx p5 74 cs ∧ IsStream cs [tag % 256] blk ∧ Below w0.heap.size w0 wx)
  case first =>
    have hwr : IntKind.u8.wrap tag = tag % 256 := by simp [IntKind.wrap, IntKind.bits, IntKind.signed]
    have HCV : Hid (∀ (g : Nat) (W : World), W.cell? ⟨g, 0, none⟩ = some (.int .u8 (IntKind.u8.wrap tag)) → (convert 43 9 (.slice (some ⟨g, 0, none⟩) 1 1)).run Tryd.prog W = .ok (.string (strOf [tag % 256])) W) := Lib.hid (fun g W h => by
      rw [hwr] at h
      have hr : Rd W (g + 1) (some ⟨g, 0, none⟩) 1 (u8s [tag % 256]) := ⟨rfl, fun _ => ⟨g, 0, rfl, by omega, fun j u hu => by
        rcases j with _ | j
        · simp only [u8s, List.map_cons, List.getElem?_cons_zero, Option.some.injEq] at hu
          rw [← hu]; exact h
        · simp [u8s] at hu⟩⟩
      exact run_toStr (P := Tryd.prog) Tryd.underlying43 Tryd.underlying5 Tryd.underlying9 hr 1 (fun h => by omega))
    clear hwr
    have hz := zero_run
    have hcv := HCV.out
    go_region_with (first
     | (go_at_call 32; refine (begin_any ((w0.drew.alloc (.cells #[.int .u8 (IntKind.u8.wrap tag)] 5)).alloc (.cells zeroS.toArray 74))).mono ?_; rintro e w1 ⟨rfl, hB1⟩; have hb1 : Below w0.heap.size w0 w1 := Below.trans (((Below.refl w0.heap.size w0).drew.alloc (by simp) _).alloc (by simp) _) (hB1.mono (by simp; try omega)); have HK1 := Lib.hid (Tab.below HK0.out hb1 (Tab.lt HK0.out)); have hc1 := (((Blk.fresh' w0.drew 5 [.int .u8 (IntKind.u8.wrap tag)] _ w0.heap.size rfl rfl).alloc (.cells zeroS.toArray 74)).below hB1 (by simp; try omega)).cell 0; have hc2 := fun o => (Blk.alloc (((Blk.fresh' w0.drew 5 [.int .u8 (IntKind.u8.wrap tag)] _ w0.heap.size rfl rfl).alloc (.cells zeroS.toArray 74)).below hB1 (by simp; try omega)) o).cell 0; have hz5 := Lib.hid ((Blk.fresh' (w0.drew.alloc (.cells #[.int .u8 (IntKind.u8.wrap tag)] 5)) 74 zeroS _ (w0.heap.size + 1) rfl (by simp)).below hB1 (by simp)))
     | (go_at_call 32; refine (begin_any ((w0.drew.alloc (.cells zeroS.toArray 74)).alloc (.cells #[.int .u8 (IntKind.u8.wrap tag)] 5))).mono ?_; rintro e w1 ⟨rfl, hB1⟩; have hb1 : Below w0.heap.size w0 w1 := Below.trans (((Below.refl w0.heap.size w0).drew.alloc (by simp) _).alloc (by simp) _) (hB1.mono (by simp; try omega)); have HK1 := Lib.hid (Tab.below HK0.out hb1 (Tab.lt HK0.out)); have hc1 := ((Blk.fresh' (w0.drew.alloc (.cells zeroS.toArray 74)) 5 [.int .u8 (IntKind.u8.wrap tag)] _ (w0.heap.size + 1) rfl (by simp)).below hB1 (by simp)).cell 0; have hc2 := fun o => (Blk.alloc ((Blk.fresh' (w0.drew.alloc (.cells zeroS.toArray 74)) 5 [.int .u8 (IntKind.u8.wrap tag)] _ (w0.heap.size + 1) rfl (by simp)).below hB1 (by simp)) o).cell 0; have hz5 := Lib.hid (((Blk.fresh' w0.drew 74 zeroS _ w0.heap.size rfl rfl).alloc (.cells #[.int .u8 (IntKind.u8.wrap tag)] 5)).below hB1 (by simp; try omega)))
     | (go_at_call 32; refine (begin_any (w0.drew.alloc (.cells #[.int .u8 (IntKind.u8.wrap tag)] 5))).mono ?_; rintro e w1 ⟨rfl, hB1⟩; have hb1 : Below w0.heap.size w0 w1 := Below.trans ((Below.refl w0.heap.size w0).drew.alloc (by simp) _) (hB1.mono (by simp; try omega)); have HK1 := Lib.hid (Tab.below HK0.out hb1 (Tab.lt HK0.out)); have hc1 := ((Blk.fresh' w0.drew 5 [.int .u8 (IntKind.u8.wrap tag)] _ w0.heap.size rfl rfl).below hB1 (by simp)).cell 0; have hc2 := fun o => (Blk.alloc ((Blk.fresh' w0.drew 5 [.int .u8 (IntKind.u8.wrap tag)] _ w0.heap.size rfl rfl).below hB1 (by simp)) o).cell 0)
     | (go_at_call 32; refine (begin_any (w0.drew.alloc (.cells zeroS.toArray 74))).mono ?_; rintro e w1 ⟨rfl, hB1⟩; have hb1 : Below w0.heap.size w0 w1 := Below.trans ((Below.refl w0.heap.size w0).drew.alloc (by simp) _) (hB1.mono (by simp; try omega)); have HK1 := Lib.hid (Tab.below HK0.out hb1 (Tab.lt HK0.out)); have hz5 := Lib.hid ((Blk.fresh' w0.drew 74 zeroS _ w0.heap.size rfl rfl).below hB1 (by simp)))
     | (go_at_call 32; refine (begin_any w0.drew).mono ?_; rintro e w1 ⟨rfl, hB1⟩; have hb1 : Below w0.heap.size w0 w1 := Below.trans (Below.refl w0.heap.size w0).drew (hB1.mono (by simp; try omega)); have HK1 := Lib.hid (Tab.below HK0.out hb1 (Tab.lt HK0.out)))
     | (go_at_call 33; refine (add_any initS [] (List.replicate 64 0) (strOf [tag % 256]) (w1.alloc (.cells #[.int .u8 (IntKind.u8.wrap tag)] 5)) zero_stream (by rw [strOf_size]; simp) (Tab.alloc HK1.out _)).mono ?_; rintro e w2 ⟨⟨cs, blk, rfl, hI⟩, hB2⟩; have hb2 : Below w0.heap.size w0 w2 := Below.trans (hb1.alloc (by have := hb1.size; simp; try omega) _) (hB2.mono (by have := hb1.size; simp; omega)); have hI2 := Lib.hid hI; have hb5 := Lib.hid ((hz5.out.alloc _).below hB2 (by have := hz5.out.lt; simp; omega)); obtain ⟨O, hO⟩ : ∃ O, O = cs.toArray := ⟨_, rfl⟩; have hs1 := hI.size; have hs2 := hI.one; rw [← hO] at hs1 hs2 ⊢; have HO := Lib.hid hO; have HS1 := Lib.hid hs1; have hstc := run_storeRow (P := Tryd.prog) hb5.out O (hs1.trans zeroS_len.symm) hs2; clear hI hO hs1 hs2)
     | (go_at_call 33; refine (add_any initS [] (List.replicate 64 0) (strOf [tag % 256]) w1 zero_stream (by rw [strOf_size]; simp) HK1.out).mono ?_; rintro e w2 ⟨⟨cs, blk, rfl, hI⟩, hB2⟩; have hb2 : Below w0.heap.size w0 w2 := Below.trans hb1 (hB2.mono (by have := hb1.size; simp; omega)); have hI2 := Lib.hid hI; have hb5 := Lib.hid (hz5.out.below hB2 hz5.out.lt); obtain ⟨O, hO⟩ : ∃ O, O = cs.toArray := ⟨_, rfl⟩; have hs1 := hI.size; have hs2 := hI.one; rw [← hO] at hs1 hs2 ⊢; have HO := Lib.hid hO; have HS1 := Lib.hid hs1; have hstc := run_storeRow (P := Tryd.prog) hb5.out O (hs1.trans zeroS_len.symm) hs2; clear hI hO hs1 hs2)
     | (go_at_call 33; refine (add_any initS [] (List.replicate 64 0) (strOf [tag % 256]) ((w1.alloc (.cells #[.int .u8 (IntKind.u8.wrap tag)] 5)).alloc (.cells zeroS.toArray 74)) zero_stream (by rw [strOf_size]; simp) (Tab.alloc (Tab.alloc HK1.out _) _)).mono ?_; rintro e w2 ⟨⟨cs, blk, rfl, hI⟩, hB2⟩; have hb2 : Below w0.heap.size w0 w2 := Below.trans ((hb1.alloc (by have := hb1.size; simp; try omega) _).alloc (by have := hb1.size; simp; try omega) _) (hB2.mono (by have := hb1.size; simp; omega)); have hI2 := Lib.hid hI; have hb5 := Lib.hid ((Blk.fresh' (w1.alloc (.cells #[.int .u8 (IntKind.u8.wrap tag)] 5)) 74 zeroS _ (w1.heap.size + 1) rfl (by simp)).below hB2 (by simp)); obtain ⟨O, hO⟩ : ∃ O, O = cs.toArray := ⟨_, rfl⟩; have hs1 := hI.size; have hs2 := hI.one; rw [← hO] at hs1 hs2 ⊢; have HO := Lib.hid hO; have HS1 := Lib.hid hs1; have hstc := run_storeRow (P := Tryd.prog) hb5.out O (hs1.trans zeroS_len.symm) hs2; clear hI hO hs1 hs2)
     | (go_at_call 33; refine (add_any initS [] (List.replicate 64 0) (strOf [tag % 256]) ((w1.alloc (.cells zeroS.toArray 74)).alloc (.cells #[.int .u8 (IntKind.u8.wrap tag)] 5)) zero_stream (by rw [strOf_size]; simp) (Tab.alloc (Tab.alloc HK1.out _) _)).mono ?_; rintro e w2 ⟨⟨cs, blk, rfl, hI⟩, hB2⟩; have hb2 : Below w0.heap.size w0 w2 := Below.trans ((hb1.alloc (by have := hb1.size; simp; try omega) _).alloc (by have := hb1.size; simp; try omega) _) (hB2.mono (by have := hb1.size; simp; omega)); have hI2 := Lib.hid hI; have hb5 := Lib.hid (((Blk.fresh' w1 74 zeroS _ w1.heap.size rfl rfl).alloc (.cells #[.int .u8 (IntKind.u8.wrap tag)] 5)).below hB2 (by simp; try omega)); obtain ⟨O, hO⟩ : ∃ O, O = cs.toArray := ⟨_, rfl⟩; have hs1 := hI.size; have hs2 := hI.one; rw [← hO] at hs1 hs2 ⊢; have HO := Lib.hid hO; have HS1 := Lib.hid hs1; have hstc := run_storeRow (P := Tryd.prog) hb5.out O (hs1.trans zeroS_len.symm) hs2; clear hI hO hs1 hs2)
     | (go_at_call 33; refine (add_any initS [] (List.replicate 64 0) (strOf [tag % 256]) (w1.alloc (.cells #[.int .u8 (IntKind.u8.wrap tag)] 5)) zero_stream (by rw [strOf_size]; simp) (Tab.alloc HK1.out _)).mono ?_; rintro e w2 ⟨⟨cs, blk, rfl, hI⟩, hB2⟩; have hb2 : Below w0.heap.size w0 w2 := Below.trans (hb1.alloc (by have := hb1.size; simp; try omega) _) (hB2.mono (by have := hb1.size; simp; omega)); have hI2 := Lib.hid hI; have hb5 := Lib.hid (Blk.fresh' w2 74 zeroS _ _ rfl rfl); obtain ⟨O, hO⟩ : ∃ O, O = cs.toArray := ⟨_, rfl⟩; have hs1 := hI.size; have hs2 := hI.one; rw [← hO] at hs1 hs2 ⊢; have HO := Lib.hid hO; have HS1 := Lib.hid hs1; have hstc := run_storeRow (P := Tryd.prog) hb5.out O (hs1.trans zeroS_len.symm) hs2; clear hI hO hs1 hs2)
     | (go_at_call 33; refine (add_any initS [] (List.replicate 64 0) (strOf [tag % 256]) (w1.alloc (.cells zeroS.toArray 74)) zero_stream (by rw [strOf_size]; simp) (Tab.alloc HK1.out _)).mono ?_; rintro e w2 ⟨⟨cs, blk, rfl, hI⟩, hB2⟩; have hb2 : Below w0.heap.size w0 w2 := Below.trans (hb1.alloc (by have := hb1.size; simp; try omega) _) (hB2.mono (by have := hb1.size; simp; omega)); have hI2 := Lib.hid hI; have hb5 := Lib.hid ((Blk.fresh' w1 74 zeroS _ w1.heap.size rfl rfl).below hB2 (by simp)); obtain ⟨O, hO⟩ : ∃ O, O = cs.toArray := ⟨_, rfl⟩; have hs1 := hI.size; have hs2 := hI.one; rw [← hO] at hs1 hs2 ⊢; have HO := Lib.hid hO; have HS1 := Lib.hid hs1; have hstc := run_storeRow (P := Tryd.prog) hb5.out O (hs1.trans zeroS_len.symm) hs2; clear hI hO hs1 hs2)
     | (go_at_call 33; refine (add_any initS [] (List.replicate 64 0) (strOf [tag % 256]) w1 zero_stream (by rw [strOf_size]; simp) HK1.out).mono ?_; rintro e w2 ⟨⟨cs, blk, rfl, hI⟩, hB2⟩; have hb2 : Below w0.heap.size w0 w2 := Below.trans hb1 (hB2.mono (by have := hb1.size; simp; omega)); have hI2 := Lib.hid hI; have hb5 := Lib.hid (Blk.fresh' w2 74 zeroS _ _ rfl rfl); obtain ⟨O, hO⟩ : ∃ O, O = cs.toArray := ⟨_, rfl⟩; have hs1 := hI.size; have hs2 := hI.one; rw [← hO] at hs1 hs2 ⊢; have HO := Lib.hid hO; have HS1 := Lib.hid hs1; have hstc := run_storeRow (P := Tryd.prog) hb5.out O (hs1.trans zeroS_len.symm) hs2; clear hI hO hs1 hs2))
    all_goals
      go_wp2_with fail
      go_meet
      case rel => exact ⟨_, cs, blk, rfl, by first | exact hb2.size | (have := hb1.size; omega), by rw [HO.out]; exact hb5.out.setRow cs, by have h := hI2.out; rw [List.nil_append, bys_strOf _ (Byt.one (by omega) (by omega))] at h; exact h, below_row (by first | exact hb2 | exact hb2.alloc hb2.size _) (by first | exact hb2.size | (have := hb1.size; omega)) _⟩
  case rest =>
    obtain ⟨p5, cs, blk, rfl, hp5, hb5, hI, hB5⟩ := hcut
    have hbw := hB0.trans (hB5.mono (Nat.le_of_lt hz0))
    have hblw := hbl.below hB5 hz0
    have hzw := hB5.size
    have HIN : Hid (inputB tag (l.take 0) = [tag % 256]) := Lib.hid rfl
    have hlen2 : l.length = n := by simpa [strs] using HL.out.1
    have HCAT : Hid (∀ t, (encs (l.take t)).length ≤ 100000000000) := Lib.hid (fun t => Nat.le_trans (encs_take_le l t) hcat)
    have HN := Lib.hid hlen2
    have HB5 := Lib.hid hb5; have HI5 := Lib.hid hI
    have HBL := Lib.hid hblw
    clear hlen2 hb5 hI hblw hbl HK0 hB0
    obtain ⟨wb, rfl⟩ : ∃ x : World, x = wc := ⟨_, rfl⟩
    have hp5b := HB5.out.lt
    go_wp2_with fail
    go_loopw [17] (fun i wr => ∃ (t : Nat) (cs : List Value) (blk : List Int), t ≤ n ∧ i = .int .i64 t ∧ Blk wr p5 74 cs ∧ IsStream cs (inputB tag (l.take t)) blk ∧ Blk wr w.heap.size 23 (u8s (List.replicate 16 0)) ∧ Below w.heap.size w wr)
      (fun i _ => n - (intOf i).toNat)
    case atStart => exact ⟨0, cs, blk, Nat.zero_le _, rfl, HB5.out, by rw [HIN.out]; exact HI5.out, HBL.out, hbw⟩
    case round =>
      obtain ⟨t, cs, blk, ht, rfl, hb5, hI, hbl, hB⟩ := hrel
      have hs := hB.size
      have hp5c := hb5.lt
      by_cases hlt : t < n
      · obtain ⟨b, o, rfl, hb, hc⟩ := HL.out.2 (by omega)
        have c0 := (hB.cell (p := ⟨b, o + t, none⟩) hb).trans (hc t _ (strs_get l t (by rw [HN.out]; exact hlt)))
        have hT := encs_take l t (by rw [HN.out]; exact hlt)
        have hsz := HCAT.out (t + 1)
        rw [hT, List.length_append] at hsz
        have hss : (l.getD t ByteArray.empty).size ≤ 1000000000000 := by
          have := encB_length (l.getD t ByteArray.empty)
          omega
        have hm2 : (inputB tag (l.take t)).length + (encB (l.getD t ByteArray.empty)).length ≤ 100000000001 := by
          simp only [inputB, List.length_cons]; omega
        have HT : Hid (inputB tag (l.take (t + 1)) = inputB tag (l.take t) ++ encB (l.getD t ByteArray.empty)) := Lib.hid (by simp [inputB, hT])
        have HS := Lib.hid hss
        clear hc hT hsz hss
        generalize l.getD t ByteArray.empty = s at *
        go_upto_region 5 with (fail)
        obtain ⟨wd, rfl⟩ : ∃ x : World, x = wr := ⟨_, rfl⟩
        obtain ⟨O, hO⟩ : ∃ O, O = cs.toArray := ⟨_, rfl⟩
        have HO := Lib.hid hO; have HI := Lib.hid hI; have HBX := Lib.hid hb5; have HBL2 := Lib.hid hbl
        clear hO hI hb5 hbl
        have HSZ1 := Lib.hid (HI.out.size)
        have HES := Lib.hid (strOf_size (encB s))
        have HEB := Lib.hid (bys_strOf _ (encB_byt s HS.out))
        have hrow := Blk.rowAt HBX.out.drew HSZ1.out
        rw [← HO.out] at hrow
        have HKD := Lib.hid (HK.out.below hB)
        go_region_with (first
          | (go_at_call 34; ((with_reducible refine (wbytes_any s _ HS.out).mono ?_); rintro e w1 ⟨⟨A3, c3, rfl, hown3⟩, hB3⟩; have hrow1 := Blk.rowAt (HBX.out.drew.below hB3 hp5c) HSZ1.out; rw [← HO.out] at hrow1; have hcv := run_toStr (P := Tryd.prog) Tryd.underlying43 Tryd.underlying5 Tryd.underlying9 (Rd.of_own hown3) c3 (opt_cases A3 _); have hz1 := hB3.size; clear hown3))
          | (go_at_call 33; have hadd := add_any cs _ blk (strOf (encB s)) w1 HI.out (by rw [HES.out]; omega) (HKD.out.drew.below hB3); rw [← HO.out] at hadd; (with_reducible refine hadd.mono ?_); rintro e w2 ⟨⟨cs2, blk2, rfl, hI2⟩, hB2⟩; obtain ⟨O2, hO2⟩ : ∃ O, O = cs2.toArray := ⟨_, rfl⟩; have hs1 := hI2.size; have hs2 := hI2.one; rw [← hO2] at hs1 hs2 ⊢; have HI2 := Lib.hid hI2; have HO2 := Lib.hid hO2; have HS2 := Lib.hid hs1; have hbx2 := Lib.hid ((HBX.out.drew.below hB3 hp5c).below hB2 (Nat.lt_of_lt_of_le hp5c hz1)); have hstc := run_storeRow (P := Tryd.prog) hbx2.out O2 (hs1.trans HSZ1.out.symm) hs2; clear hI2 hO2 hs1 hs2 hadd))
        all_goals
          clear hstc hcv hrow1
          first
          | (exfalso; rename_i hx; exact hx HS2.out)
          | skip
        all_goals
          go_wp2_with fail
          go_roundw
          case rel =>
            have hp5d := Nat.lt_of_lt_of_le hp5c hz1
            refine ⟨t + 1, cs2, blk2, by omega, by go_num, by rw [HO2.out]; exact hbx2.out.setRow cs2, ?_, ?_, ?_⟩
            · have h := HI2.out
              rw [HEB.out, ← HT.out] at h
              exact h
            · exact ((HBL2.out.drew.below hB3 (Nat.lt_trans (show w.heap.size < p5 by omega) hp5c)).below hB2 (Nat.lt_trans (show w.heap.size < p5 by omega) hp5d)).setRow_far (by omega) _
            · exact below_row ((hB.drew.trans (hB3.mono hs)).trans (hB2.mono (Nat.le_trans hs hz1))) (by omega) _
          case measure => simp [intOf]; omega
      · obtain rfl : t = n := by omega
        have HTN : Hid (l.take t = l) := Lib.hid (List.take_of_length_le (by rw [HN.out]; omega))
        rw [HTN.out] at hI
        have HSZ1 := Lib.hid hI.size
        have HKD := Lib.hid (HK.out.below hB)
        have hb4 : w.heap.size ≠ p5 := by omega
        obtain ⟨L, hL⟩ : ∃ L, L = sha (inputB tag l) := ⟨_, rfl⟩
        have HL32 : Hid (L.length = 32) := Lib.hid (by rw [hL]; exact sha_length _)
        have HVL : Hid (V = (u8s L).take 16) := Lib.hid (by rw [HV.out, hL]; simp [u8s, List.map_take])
        have HLL := Lib.hid hL
        clear hL
        have HI := Lib.hid hI
        obtain ⟨wd, rfl⟩ : ∃ x : World, x = wr := ⟨_, rfl⟩
        clear hI
        obtain ⟨U, hU⟩ : ∃ U, U = u8s L := ⟨_, rfl⟩
        have HU := Lib.hid hU
        have HU32 : Hid (U.toArray.size = 32) := Lib.hid (by rw [hU]; simp [u8s, HL32.out])
        have HU1 : Hid (U.toArray.all (·.oneCell') = true) := Lib.hid (by rw [hU]; exact u8s_all _)
        have HRG : Hid (∀ (W : World) g, Blk W g 78 U → W.rangeAt g 0 V) := Lib.hid (fun W g hW j v hv => by
          rw [Nat.zero_add, hW.cell, hU]
          rw [HVL.out, List.getElem?_take] at hv
          split at hv
          · exact hv
          · cases hv)
        clear hU
        have ha := fun (W : World) (a : Option Addr) (cap : Nat) => run_arrayAt (P := Tryd.prog) W 23 5 16 a 16 cap Tryd.underlying23 (Nat.le_refl _)
        go_wp2_with (first
          | (refine wpList_load_row rfl 74 (.tmp 5) rfl p5 rfl 74 _ (0, 0) _ hb5 Tryd.underlying74 rfl (info_stream.trans (congrArg some HSZ1.out.symm)) ?_)
          | (go_at_call 35; (refine (ssum_any cs _ blk wd HI.out (by omega) HKD.out).mono ?_); rintro e w1 ⟨rfl, hB1⟩; rw [← HLL.out, ← HU.out]; have hz1 := hB1.size; have hbl1 := Lib.hid (hbl.below hB1 (by omega)); have hb1 := hB.trans (hB1.mono hs))
          | (refine wpList_store_row rfl 78 (.tmp 8) (.tmp 28) rfl w1.heap.size _ rfl rfl 78 _ (heap_alloc_new _ _) (info_32u8.trans (congrArg some HU32.out.symm)) HU32.out.symm HU1.out ?_; have hw2 := Lib.hid (HRG.out _ _ ((Blk.fresh w1 78 (u8s (List.replicate 32 0))).setRow U)); have hbl2 := Lib.hid ((hbl1.out.alloc (.cells (u8s (List.replicate 32 0)).toArray 78)).setRow_far (k := w1.heap.size) (by omega) U.toArray); have hb2 := below_row (hb1.alloc (Nat.le_trans hs hz1) (.cells (u8s (List.replicate 32 0)).toArray 78)) (g := w1.heap.size) (Nat.le_trans hs hz1) U.toArray)
          | (refine wpList_load_mid rfl 23 (.tmp 30) rfl w1.heap.size 0 rfl V _ hw2.out Tryd.underlying23 rfl (info_16u8.trans (congrArg some HSZ.out.symm)) ?_)
          | (refine wpList_store_row rfl 23 (.tmp 4) (.tmp 31) rfl w.heap.size _ rfl rfl 23 _ hbl2.out (info_16u8.trans (congrArg some HSZ.out.symm)) (zero16_len.trans HSZ.out.symm) HONE.out ?_))
        exact bodyPost_ret (results_cell_row Tryd.results26 _ _ w.heap.size 23 _ (0, 0) _ rfl (hbl2.out.setRow V) Tryd.underlying23 rfl (info_16u8.trans (congrArg some HSZ.out.symm))) rfl ⟨by rw [HV.out], below_row hb2 (Nat.le_refl _) _⟩
end Go.Proofs.YtkjckmdiolgmcaaDoor
