/- review.Decode. Conditions: at most 10^12 bytes. -/
import Derived.Test.YtjeecfjeooehhaaGreatDoorRvN
set_option linter.unusedSimpArgs false
set_option linter.unusedVariables false
namespace Go.Proofs.YtjeecfjeooehhaaGreatDoor
open Go.RowKit
attribute [local go_sem ↓] wp_at_zero wp_at_succ
theorem results_blk_bit3 {P : Program} {fn : Func} {p u v : Tmp} {ty : TypeId} (h : fn.results = #[ResultVar.cell p ty, .tmp u, .tmp v]) (tmps : Array Value) (w : World) (g : Nat) (t : TypeId) (cs : List Value) (d : TypeDesc) (hp : tmps.getD p undef = .pointer (some ⟨g, 0, none⟩))
    (hb : Blk w g t cs) (hu : P.underlying ty = some d) (hd : d.isRow = true) (hi : (P.info? ty).map (·.size) = some cs.length) : (results fn tmps).run P w = .ok (.tuple #[.agg cs.toArray, tmps.getD u undef, tmps.getD v undef]) w := by
  have hp' : tmps[p]?.getD undef = .pointer (some ⟨g, 0, none⟩) := by simpa using hp
  simp [results, h, hp', asAddr, run_loadVar_row w g t ty cs.toArray (0, 0) d hb hu (by cases d <;> first | rfl | cases hd) (by rw [hi, List.size_toArray])]
theorem wpList_store_freshw {P : Program} {ops : Array Oper} {rest : List Oper} {o : Oper} {a : Act} {w : World} {Q : Exit → Act → World → Prop} (hgd : o.guard = none) (ty : TypeId) (x y : Operand) (ho : o.op = Op.store ty x y) (g : Nat) (hg : g = w.heap.size) (Z U : List Value) (t : TypeId) (hx : a.eval x = .pointer (some ⟨g, 0, none⟩)) (hy : a.eval y = .agg U.toArray)
    (hi : (P.info? ty).map (·.size) = some U.length) (hl : Z.length = U.length) (h1 : ∀ v ∈ U, v.oneCell' = true)
    (h : ∀ w2, Blk w2 g t U → Ext w w2 → w.heap.size < w2.heap.size → wpList P ops Q rest (a.put o.dst undef) w2) : wpList P ops Q (o :: rest) a (w.alloc (.cells Z.toArray t)) :=
  wpList_store_fresh hgd ty x y ho _ g hg Z U t hx hy rfl hi hl h1 h
/-- What is decoded out of bytes in which a review was found. -/
def decF (rd : Option Rev) (l : List Int) : Option Rev := rd.bind fun r => if encE r = 0 ∧ preB l (encR r) = true then some r else none
def decN (x : Option Rev) : Int := match x with
  | some r => ((encR r).length : Int)
  | none => 0
def decC (x : Option Rev) : Int := match x with
  | some _ => 0
  | none => 2
theorem build_rev0 : Tryz.prog.built 28 [] = some Z0.toArray := by kernel_rfl
theorem encE_len {r : Rev} (h : encE r = 0) : r.ops.length ≤ 32 ∧ r.sl.size ≤ 1200 := by
  unfold encE at h
  split at h
  · rename_i hv
    split at h
    · cases h
    · exact ⟨(validE_zero hv).2.1, by omega⟩
  · rename_i hv; exact absurd h hv
theorem byt_app {a b : List Int} (h1 : Byt a) (h2 : Byt b) : Byt (a ++ b) := fun x hx => (List.mem_append.1 hx).elim (h1 x) (h2 x)
theorem byt_encL (l : List Int) (hl : ∀ x ∈ l, -9223372036854775808 ≤ x ∧ x ≤ 9223372036854775807) (hn : (l.length : Int) ≤ 9223372036854775807) : Byt (encL encInt l) := by
  unfold encL
  refine byt_app (encInt_byt _ (by omega) hn) (fun x hx => ?_)
  obtain ⟨y, hy, hxy⟩ := List.mem_flatMap.1 hx
  exact encInt_byt y (hl y hy).1 (hl y hy).2 x hxy
theorem byt_bys (s : ByteArray) : Byt (bys s) := fun x hx => by
  unfold bys at hx
  obtain ⟨y, _, rfl⟩ := List.mem_map.1 hx
  have := y.toNat_lt
  omega
theorem byt_encB (s : ByteArray) (h : (s.size : Int) ≤ 9223372036854775807) : Byt (encB s) := by
  unfold encB
  exact byt_app (encInt_byt _ (by omega) h) (byt_bys s)
theorem encR_byt {r : Rev} (hw : RevW r) (hm : r.mean.length = 16) (hb : Byt r.mean) : Byt (encR r) := by
  unfold encR
  refine byt_app (byt_app (byt_app (byt_app (byt_encL _ (fun x hx => ?_) (by simp)) (encInt_byt _ (by unfold wdI; split <;> decide) (by unfold wdI; split <;> decide))) (byt_encL _ hw.ops (by rw [opsI_len]; have := hw.many; omega))) ?_) (byt_encB _ (by have := hw.sls; omega))
  · simp only [List.mem_cons, List.not_mem_nil, or_false] at hx
    rcases hx with rfl | rfl | rfl
    · exact hw.shop
    · exact hw.seq
    · exact hw.day
  · unfold encL idD
    refine byt_app (encInt_byt _ (by simp) (by simp)) (fun x hx => ?_)
    simp only [List.flatMap_cons, List.flatMap_nil, List.append_nil] at hx
    exact hb x hx
/-- What a reader hands over. -/
def ReadsR (rd : Option Rev) (f : FuncId) (A : Option Addr) (n c : Nat) (w : World) : Prop := Calls Tryz.prog f #[.slice A n c] w fun e w' => (match rd with
  | none => ∃ ZZ : List Value, e = .returned (.tuple #[.agg ZZ.toArray, .bool false]) ∧ ZZ.length = 22 ∧ ∀ v ∈ ZZ, v.oneCell' = true
  | some r => ∃ A' n' c', e = .returned (.tuple #[.agg (revC r A' n' c').toArray, .bool true]) ∧ RevV w' r A' n' c' ∧ ∀ a, A' = some a → w.heap.size ≤ a.block) ∧ Ext w w'
theorem read_any (l : List Int) (A : Option Addr) (n c : Nat) (w : World) (hl : Rd w w.heap.size A n (u8s l)) (hby : Byt l) (hnc : n ≤ c) (hc : c ≤ 9223372036854775807) (hn : n ≤ 1000000000000) : ReadsR (readP l) 32 A n c w := by
  unfold ReadsR readP
  by_cases h : bad1 l ∨ bad2 l ∨ bad3 l ∨ bad4 l ∨ bad5 l
  · rw [if_pos h]
    exact (read_bad l A n c w hl hby hnc hc hn h).mono (by rintro e w' ⟨rfl, hE⟩; exact ⟨⟨Z0, rfl, rfl, revC_one rev0 none 0 0⟩, hE⟩)
  · rw [if_neg h]
    exact read_good l A n c w hl hby hnc hc hn h
set_option maxHeartbeats 16000000 in
set_option maxRecDepth 100000 in
theorem decode_any (rd : Option Rev) (l : List Int) (A : Option Addr) (n c : Nat) (w : World) (hl : Rd w w.heap.size A n (u8s l)) (hby : Byt l) (hnc : n ≤ c) (hc : c ≤ 9223372036854775807) (hn : n ≤ 1000000000000) (hr : ∀ W, Ext w W → ReadsR rd 32 A n c W) :
    Calls Tryz.prog 10 #[.slice A n c] w fun e w' => (∃ A' n' c', e = .returned (.tuple #[.agg (revC ((decF rd l).getD rev0) A' n' c').toArray, .int .i64 (decN (decF rd l)), .int .i64 (decC (decF rd l))]) ∧ RevV w' ((decF rd l).getD rev0) A' n' c' ∧ ∀ a, A' = some a → w.heap.size ≤ a.block) ∧ Ext w w' := by
  have zz : ∀ W, (zeroValue 28).run Tryz.prog W = .ok (.agg Z0.toArray) W := fun W => by kernel_rfl
  have HR := Lib.hid hr
  have HL := Lib.hid hl
  have HBY := Lib.hid hby
  clear hr hl hby
  unfold ReadsR at HR
  cases rd with
  | none =>
    have HD : Hid (decF none l = none) := Lib.hid rfl
    dsimp only at HR
    go_enter Tryz.func10, Tryz.ntmps10
    go_upto_region 1 with fail
    obtain ⟨w1, hw1⟩ : ∃ x, x = w.alloc (.cells Z0.toArray 28) := ⟨_, rfl⟩
    change Code.wp _ _ _ _ (w.alloc (.cells Z0.toArray 28))
    rw [← hw1]
    have EX : Hid (Ext w w1) := Lib.hid (by rw [hw1]; exact (Ext.refl w).alloc _)
    have BZ : Hid (Blk w1 w.heap.size 28 Z0) := Lib.hid (by rw [hw1]; exact Blk.fresh' _ _ _ _ _ rfl rfl)
    clear hw1
    go_wp2_with (first
          | (go_at_call 32; (with_reducible refine (HR.out _ EX.out).mono ?_); rintro e w2 ⟨⟨ZZ, rfl, hZZ, hZ1⟩, hE2⟩; have HZZ := Lib.hid hZZ; have HZ1 := Lib.hid hZ1; have BZ := Lib.hid (BZ.out.ext hE2); have EX := Lib.hid (EX.out.next hE2); clear hE2; clear hZZ hZ1)
          | (refine wpList_store_freshw rfl 28 (.tmp 5) (.tmp 12) rfl w2.heap.size rfl Z0 ZZ 28 (by kernel_rfl) (by kernel_rfl) (info_rev.trans (congrArg some HZZ.out.symm)) (Eq.trans (b := 22) rfl HZZ.out.symm) HZ1.out ?_; intro w3 hw3 hE3 hz3; have B5 := Lib.hid hw3; have E23 := Lib.hid hE3; have BZ := Lib.hid (BZ.out.ext hE3); have EX := Lib.hid (EX.out.next hE3); clear hE3; clear hw3 hz3)
          | (refine wpList_build_eq (by rfl) 28 _ rfl _ (by kernel_rfl) Z0 build_rev0 ?_)
          | (refine wpList_store_blk rfl 28 (.tmp 2) (.tmp 16) rfl w.heap.size Z0 (by kernel_rfl) (by kernel_rfl) BZ.out info_rev rfl (revC_one rev0 none 0 0) ?_; intro w9 hw9 hb9; have E9 : Hid (Ext w w9) := Lib.hid (by rw [hw9.out]; exact EX.out.setRow (Nat.le_refl _) _)))
    refine bodyPost_ret (results_blk_bit3 Tryz.results10 _ _ w.heap.size 28 Z0 _ (by rfl) hb9 Tryz.underlying28 rfl info_rev) rfl ?_
    rw [HD.out]
    exact ⟨⟨none, 0, 0, rfl, rev0_V _, fun a h => by cases h⟩, E9.out⟩
  | some r =>
    dsimp only at HR
    have HEN : Hid (∀ W B2 n2 d2, RevV W r B2 n2 d2 → Calls Tryz.prog 8 #[.agg (revC r B2 n2 d2).toArray] W fun e w' => (∃ A' c', e = .returned (.tuple #[.slice A' (encX r).length c', .int .i64 (encE r)]) ∧ w'.ownsRow W.heap.size 5 1 (.slice A' (encX r).length c') (encX r).length (u8s (encX r))) ∧ Ext W w') := Lib.hid (fun W B2 n2 d2 hv => encodeX_any r B2 n2 d2 W hv)
    obtain ⟨k, hk⟩ : ∃ k, k = (encX r).length := ⟨_, rfl⟩
    obtain ⟨v, hv⟩ : ∃ v, v = encE r := ⟨_, rfl⟩
    rw [← hk, ← hv] at HEN
    by_cases hv0 : v = 0
    · subst hv0
      have hX : encX r = encR r := by unfold encX; rw [if_pos hv.symm]
      have HRW := Lib.hid (revW_of hv.symm)
      rw [hX] at HEN hk
      have HKL := Lib.hid hk
      by_cases hp : preB l (encR r) = true
      · have HD : Hid (decF (some r) l = some r) := Lib.hid (by unfold decF; rw [Option.bind_some, if_pos ⟨hv.symm, hp⟩])
        have HDN : Hid (decN (some r) = (k : Int)) := Lib.hid (by unfold decN; rw [hk])
        have HPR : Hid (∀ W B d, Ext w W → Rd W W.heap.size B k (u8s (encR r)) → ∀ B2 n2 d2, RevV W r B2 n2 d2 → Calls Tryz.prog 33 #[.slice A n c, .slice B k d] W fun e w' => e = .returned (.bool true) ∧ Ext W w') := Lib.hid (fun W B d hW hB B2 n2 d2 hV => by
          have h := hasPrefix_any l (encR r) A B n c k d W (HL.out.ext' hW) HBY.out hB (encR_byt HRW.out hV.mean hV.mbyt) hnc hc (by rw [HKL.out]; have := encR_le r hV HRW.out; omega)
          rw [hp] at h
          exact h)
        clear hk hv hX hp
        go_enter Tryz.func10, Tryz.ntmps10
        go_upto_region 1 with fail
        obtain ⟨w1, hw1⟩ : ∃ x, x = w.alloc (.cells Z0.toArray 28) := ⟨_, rfl⟩
        change Code.wp _ _ _ _ (w.alloc (.cells Z0.toArray 28))
        rw [← hw1]
        have EX : Hid (Ext w w1) := Lib.hid (by rw [hw1]; exact (Ext.refl w).alloc _)
        have BZ : Hid (Blk w1 w.heap.size 28 Z0) := Lib.hid (by rw [hw1]; exact Blk.fresh' _ _ _ _ _ rfl rfl)
        clear hw1
        go_wp2_with (first
              | (go_at_call 32; (with_reducible refine (HR.out _ EX.out).mono ?_); rintro e w2 ⟨⟨B2, n2, d2, rfl, hv2, hf2⟩, hE2⟩; have HV := Lib.hid hv2; have HF := Lib.hid hf2; have EX2 := EX; have HW1 := Lib.hid BZ.out.lt; have HL2 : Hid ((revC r B2 n2 d2).length = 22) := Lib.hid (revC_len _ _ _ _ hv2.mean); have BZ := Lib.hid (BZ.out.ext hE2); have EX := Lib.hid (EX.out.next hE2); clear hE2; clear hv2 hf2)
              | (refine wpList_store_freshw rfl 28 (.tmp 5) (.tmp 12) rfl w2.heap.size rfl Z0 (revC r B2 n2 d2) 28 (by kernel_rfl) (by kernel_rfl) (info_rev.trans (congrArg some HL2.out.symm)) (Eq.trans (b := 22) rfl HL2.out.symm) (revC_one r B2 n2 d2) ?_; intro w3 hw3 hE3 hz3; have B5 := Lib.hid hw3; have E23 := Lib.hid hE3; have BZ := Lib.hid (BZ.out.ext hE3); have EX := Lib.hid (EX.out.next hE3); clear hE3; clear hw3 hz3)
              | (refine wpList_load_blk rfl 28 (.tmp 5) rfl w2.heap.size (by kernel_rfl) B5.out Tryz.underlying28 rfl (info_rev.trans (congrArg some HL2.out.symm)) ?_)
              | (go_at_call 8; (with_reducible refine (HEN.out _ B2 n2 d2 (HV.out.ext E23.out)).mono ?_); rintro e w4 ⟨⟨B4, d4, rfl, ho4⟩, hE4⟩; have O4 := Lib.hid ho4; have B5 := Lib.hid (B5.out.ext hE4); have HV4 := Lib.hid ((HV.out.ext E23.out).ext hE4); have BZ := Lib.hid (BZ.out.ext hE4); have EX := Lib.hid (EX.out.next hE4); clear hE4; clear ho4)
              | (go_at_call 33; (with_reducible refine (HPR.out _ B4 d4 EX.out (Rd.of_own O4.out) B2 n2 d2 HV4.out).mono ?_); rintro e w5 ⟨rfl, hE5⟩; have HV4 := Lib.hid (HV4.out.ext hE5); have B5 := Lib.hid (B5.out.ext hE5); have BZ := Lib.hid (BZ.out.ext hE5); have EX := Lib.hid (EX.out.next hE5); clear hE5)
              | (refine wpList_store_blk rfl 28 (.tmp 2) (.tmp 31) rfl w.heap.size (revC r B2 n2 d2) (by kernel_rfl) (by kernel_rfl) BZ.out (info_rev.trans (congrArg some HL2.out.symm)) (Eq.trans (b := 22) rfl HL2.out.symm) (revC_one r B2 n2 d2) ?_; intro w9 hw9 hb9; have E9 : Hid (Ext w w9) := Lib.hid (by rw [hw9.out]; exact EX.out.setRow (Nat.le_refl _) _)))
        refine bodyPost_ret (results_blk_bit3 Tryz.results10 _ _ w.heap.size 28 (revC r B2 n2 d2) _ (by rfl) hb9 Tryz.underlying28 rfl (info_rev.trans (congrArg some HL2.out.symm))) rfl ?_
        rw [HD.out]
        refine ⟨⟨B2, n2, d2, by rw [HDN.out]; rfl, ?_, fun a ha => Nat.le_trans EX2.out.size (HF.out a ha)⟩, E9.out⟩
        have hv4 := HV4.out
        have hf4 := HF.out
        have hw4 := HW1.out
        rw [hw9.out]
        exact ⟨rdn_setRow hv4.row (fun a ha => by have h1 := hf4 a ha; omega) _, hv4.le, hv4.cap, hv4.few, hv4.mean, hv4.mbyt⟩
      · have hp : preB l (encR r) = false := by
          cases h : preB l (encR r) with
          | false => rfl
          | true => exact absurd h hp
        have HD : Hid (decF (some r) l = none) := Lib.hid (by unfold decF; rw [Option.bind_some, if_neg (by rw [hp]; rintro ⟨_, h⟩; cases h)])
        have HPR : Hid (∀ W B d, Ext w W → Rd W W.heap.size B k (u8s (encR r)) → ∀ B2 n2 d2, RevV W r B2 n2 d2 → Calls Tryz.prog 33 #[.slice A n c, .slice B k d] W fun e w' => e = .returned (.bool false) ∧ Ext W w') := Lib.hid (fun W B d hW hB B2 n2 d2 hV => by
          have h := hasPrefix_any l (encR r) A B n c k d W (HL.out.ext' hW) HBY.out hB (encR_byt HRW.out hV.mean hV.mbyt) hnc hc (by rw [HKL.out]; have := encR_le r hV HRW.out; omega)
          rw [hp] at h
          exact h)
        clear hk hv hX hp
        go_enter Tryz.func10, Tryz.ntmps10
        go_upto_region 1 with fail
        obtain ⟨w1, hw1⟩ : ∃ x, x = w.alloc (.cells Z0.toArray 28) := ⟨_, rfl⟩
        change Code.wp _ _ _ _ (w.alloc (.cells Z0.toArray 28))
        rw [← hw1]
        have EX : Hid (Ext w w1) := Lib.hid (by rw [hw1]; exact (Ext.refl w).alloc _)
        have BZ : Hid (Blk w1 w.heap.size 28 Z0) := Lib.hid (by rw [hw1]; exact Blk.fresh' _ _ _ _ _ rfl rfl)
        clear hw1
        go_wp2_with (first
              | (go_at_call 32; (with_reducible refine (HR.out _ EX.out).mono ?_); rintro e w2 ⟨⟨B2, n2, d2, rfl, hv2, hf2⟩, hE2⟩; have HV := Lib.hid hv2; have HF := Lib.hid hf2; have EX2 := EX; have HW1 := Lib.hid BZ.out.lt; have HL2 : Hid ((revC r B2 n2 d2).length = 22) := Lib.hid (revC_len _ _ _ _ hv2.mean); have BZ := Lib.hid (BZ.out.ext hE2); have EX := Lib.hid (EX.out.next hE2); clear hE2; clear hv2 hf2)
              | (refine wpList_store_freshw rfl 28 (.tmp 5) (.tmp 12) rfl w2.heap.size rfl Z0 (revC r B2 n2 d2) 28 (by kernel_rfl) (by kernel_rfl) (info_rev.trans (congrArg some HL2.out.symm)) (Eq.trans (b := 22) rfl HL2.out.symm) (revC_one r B2 n2 d2) ?_; intro w3 hw3 hE3 hz3; have B5 := Lib.hid hw3; have E23 := Lib.hid hE3; have BZ := Lib.hid (BZ.out.ext hE3); have EX := Lib.hid (EX.out.next hE3); clear hE3; clear hw3 hz3)
              | (refine wpList_load_blk rfl 28 (.tmp 5) rfl w2.heap.size (by kernel_rfl) B5.out Tryz.underlying28 rfl (info_rev.trans (congrArg some HL2.out.symm)) ?_)
              | (go_at_call 8; (with_reducible refine (HEN.out _ B2 n2 d2 (HV.out.ext E23.out)).mono ?_); rintro e w4 ⟨⟨B4, d4, rfl, ho4⟩, hE4⟩; have O4 := Lib.hid ho4; have B5 := Lib.hid (B5.out.ext hE4); have HV4 := Lib.hid ((HV.out.ext E23.out).ext hE4); have BZ := Lib.hid (BZ.out.ext hE4); have EX := Lib.hid (EX.out.next hE4); clear hE4; clear ho4)
              | (go_at_call 33; (with_reducible refine (HPR.out _ B4 d4 EX.out (Rd.of_own O4.out) B2 n2 d2 HV4.out).mono ?_); rintro e w5 ⟨rfl, hE5⟩; have HV4 := Lib.hid (HV4.out.ext hE5); have B5 := Lib.hid (B5.out.ext hE5); have BZ := Lib.hid (BZ.out.ext hE5); have EX := Lib.hid (EX.out.next hE5); clear hE5)
              | (refine wpList_build_eq (by rfl) 28 _ rfl _ (by kernel_rfl) Z0 build_rev0 ?_)
              | (refine wpList_store_blk rfl 28 (.tmp 2) (.tmp 30) rfl w.heap.size Z0 (by kernel_rfl) (by kernel_rfl) BZ.out info_rev rfl (revC_one rev0 none 0 0) ?_; intro w9 hw9 hb9; have E9 : Hid (Ext w w9) := Lib.hid (by rw [hw9.out]; exact EX.out.setRow (Nat.le_refl _) _)))
        refine bodyPost_ret (results_blk_bit3 Tryz.results10 _ _ w.heap.size 28 Z0 _ (by rfl) hb9 Tryz.underlying28 rfl info_rev) rfl ?_
        rw [HD.out]
        exact ⟨⟨none, 0, 0, rfl, rev0_V _, fun a h => by cases h⟩, E9.out⟩
    · have hne : (v == 0) = false := by simpa using hv0
      have HD : Hid (decF (some r) l = none) := Lib.hid (by unfold decF; rw [Option.bind_some, if_neg (by rw [← hv]; rintro ⟨h, _⟩; exact hv0 h)])
      clear hk hv
      go_enter Tryz.func10, Tryz.ntmps10
      go_upto_region 1 with fail
      obtain ⟨w1, hw1⟩ : ∃ x, x = w.alloc (.cells Z0.toArray 28) := ⟨_, rfl⟩
      change Code.wp _ _ _ _ (w.alloc (.cells Z0.toArray 28))
      rw [← hw1]
      have EX : Hid (Ext w w1) := Lib.hid (by rw [hw1]; exact (Ext.refl w).alloc _)
      have BZ : Hid (Blk w1 w.heap.size 28 Z0) := Lib.hid (by rw [hw1]; exact Blk.fresh' _ _ _ _ _ rfl rfl)
      clear hw1
      go_wp2_with (first
            | (go_at_call 32; (with_reducible refine (HR.out _ EX.out).mono ?_); rintro e w2 ⟨⟨B2, n2, d2, rfl, hv2, hf2⟩, hE2⟩; have HV := Lib.hid hv2; have HF := Lib.hid hf2; have EX2 := EX; have HW1 := Lib.hid BZ.out.lt; have HL2 : Hid ((revC r B2 n2 d2).length = 22) := Lib.hid (revC_len _ _ _ _ hv2.mean); have BZ := Lib.hid (BZ.out.ext hE2); have EX := Lib.hid (EX.out.next hE2); clear hE2; clear hv2 hf2)
            | (refine wpList_store_freshw rfl 28 (.tmp 5) (.tmp 12) rfl w2.heap.size rfl Z0 (revC r B2 n2 d2) 28 (by kernel_rfl) (by kernel_rfl) (info_rev.trans (congrArg some HL2.out.symm)) (Eq.trans (b := 22) rfl HL2.out.symm) (revC_one r B2 n2 d2) ?_; intro w3 hw3 hE3 hz3; have B5 := Lib.hid hw3; have E23 := Lib.hid hE3; have BZ := Lib.hid (BZ.out.ext hE3); have EX := Lib.hid (EX.out.next hE3); clear hE3; clear hw3 hz3)
            | (refine wpList_load_blk rfl 28 (.tmp 5) rfl w2.heap.size (by kernel_rfl) B5.out Tryz.underlying28 rfl (info_rev.trans (congrArg some HL2.out.symm)) ?_)
            | (go_at_call 8; (with_reducible refine (HEN.out _ B2 n2 d2 (HV.out.ext E23.out)).mono ?_); rintro e w4 ⟨⟨B4, d4, rfl, ho4⟩, hE4⟩; have O4 := Lib.hid ho4; have B5 := Lib.hid (B5.out.ext hE4); have HV4 := Lib.hid ((HV.out.ext E23.out).ext hE4); have BZ := Lib.hid (BZ.out.ext hE4); have EX := Lib.hid (EX.out.next hE4); clear hE4; clear ho4)
            | (refine wpList_build_eq (by rfl) 28 _ rfl _ (by kernel_rfl) Z0 build_rev0 ?_)
            | (refine wpList_store_blk rfl 28 (.tmp 2) (.tmp 30) rfl w.heap.size Z0 (by kernel_rfl) (by kernel_rfl) BZ.out info_rev rfl (revC_one rev0 none 0 0) ?_; intro w9 hw9 hb9; have E9 : Hid (Ext w w9) := Lib.hid (by rw [hw9.out]; exact EX.out.setRow (Nat.le_refl _) _)))
      refine bodyPost_ret (results_blk_bit3 Tryz.results10 _ _ w.heap.size 28 Z0 _ (by rfl) hb9 Tryz.underlying28 rfl info_rev) rfl ?_
      rw [HD.out]
      exact ⟨⟨none, 0, 0, rfl, rev0_V _, fun a h => by cases h⟩, E9.out⟩
end Go.Proofs.YtjeecfjeooehhaaGreatDoor
