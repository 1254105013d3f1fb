/- link's deliver: the held messages that are next. Conditions: numbers below a bound. -/
import Derived.Test.YtkgmoklifkojhaaLkDel
set_option linter.unusedSimpArgs false
set_option linter.unusedVariables false
namespace Go.Proofs.Ytkgmoklifkojhaa
open Go.RowKit
theorem HeldMap.pos {w : World} {hm n s : Nat} {h : Int → Option Value} (hh : HeldMap w hm n s h) {i : Int} {v : Value} (hi : in64 i) (hv : h i = some v) : 0 < s := by
  obtain ⟨D, h1, h2, h3⟩ := hh
  have hT := h1.tidy keyI
  have := Maps.size_del (k := .int .i64 i) hT
  rw [(h3 i hi).1, hv] at this
  simp only [Option.isSome_some, if_true] at this
  omega
/-- An end after a change of its own block and of its map alone. -/
theorem IsEnd.change {Mu Ft : Nat → Prop} {w w' : World} {p : Nat} {E E2 : EndS} {WA : Option Addr} {wc hm : Nat} {vs : List Value} {h h2 : Int → Option Value} (I : IsEnd Mu Ft w p E WA wc hm vs h) (hk : Kept (fun b => b = p ∨ b = hm) w w')
    (hw : E2.waiting = E.waiting) (hb : Blk w' p 65 (endC E2 (.slice WA E2.waiting.length wc) hm)) (hmap : HeldMap w' hm E2.tot E2.cnt h2) (hh : ∀ i, in64 i → HeldEq Mu w' (h2 i) (E2.held i)) (ok : EndOk E2) : IsEnd Mu Ft w' p E2 WA wc hm vs h2 := by
  have hF : ∀ b, (b = p ∨ b = hm) → Mu b := by
    rintro b (rfl | rfl)
    · exact I.fm _ I.fp
    · exact I.fm _ I.fh
  refine ⟨hb, ?_, ?_, hmap, hh, I.fp, I.fh, ?_, I.fm, fun b hb => Nat.lt_of_lt_of_le (I.fl b hb) hk.size, ok⟩
  · rw [hw]
    refine hk.own I.row ?_
    rintro b hbk (rfl | rfl)
    · exact (I.fr _ hbk).2 rfl
    · rcases I.row.2 with ⟨h1, _⟩ | ⟨g, cap, cur, h1, _, h3, _⟩
      · rw [h1] at hbk; cases hbk
      · rw [h1] at hbk
        have h4 : g = b := by simpa [Value.ownBlock] using hbk
        subst h4
        exact I.map.ne_blk (g := g) (t := 33) (cs := cur.toList) (by unfold Blk; rw [Array.toArray_toList]; exact h3) rfl
  · rw [hw]; exact I.msgs.keep hk hF (fun _ _ h => h)
  · rw [hw]; exact I.fr
theorem IsEnd.mu {Mu Mu' Ft : Nat → Prop} {w : World} {p : Nat} {E : EndS} {WA : Option Addr} {wc hm : Nat} {vs : List Value} {h : Int → Option Value} (I : IsEnd Mu Ft w p E WA wc hm vs h) (hM : ∀ b, b < w.heap.size → Mu' b → Mu b) (hF : ∀ b, Ft b → Mu' b) : IsEnd Mu' Ft w p E WA wc hm vs h := by
  have hk : Kept (fun _ => False) w w := Kept.refl _ w
  exact ⟨I.blk, I.row, I.msgs.keep hk (fun _ h => h.elim) hM, I.map, fun i hi => (I.held i hi).keep hk (fun _ h => h.elim) hM, I.fp, I.fh, I.fr, hF, I.fl, I.ok⟩
/-- An end whose blocks are none of F. -/
theorem IsEnd.apart {Mu Ft F : Nat → Prop} {w w' : World} {p : Nat} {E : EndS} {WA : Option Addr} {wc hm : Nat} {vs : List Value} {h : Int → Option Value} (I : IsEnd Mu Ft w p E WA wc hm vs h) (hk : Kept F w w') (hF : ∀ b, F b → Mu b) (hd : ∀ b, F b → ¬ Ft b) : IsEnd Mu Ft w' p E WA wc hm vs h :=
  ⟨hk.blk I.blk (fun hf => hd _ hf I.fp), hk.own I.row (fun b hb hf => hd _ hf (I.fr b hb).1), I.msgs.keep hk hF (fun _ _ h => h), I.map.kept hk (fun hf => hd _ hf I.fh), fun i hi => (I.held i hi).keep hk hF (fun _ _ h => h), I.fp, I.fh, I.fr, I.fm, fun b hb => Nat.lt_of_lt_of_le (I.fl b hb) hk.size, I.ok⟩
def stepD (E : EndS) : EndS := { E with delivered := E.delivered + 1, held := fun j => if j = E.delivered + 1 then none else E.held j, cnt := E.cnt - 1 }
def deliverN : Nat → EndS → List (List Int) → List (List Int) × EndS
  | 0, E, acc => (acc, E)
  | k + 1, E, acc => match E.held (E.delivered + 1) with
    | none => (acc, E)
    | some m => deliverN k (stepD E) (acc ++ [m])
theorem stepD_plain {Mu Ft : Nat → Prop} {w w2 w3 : World} {p : Nat} {E : EndS} {WA : Option Addr} {wc hm : Nat} {vs : List Value} {h : Int → Option Value} (I : IsEnd Mu Ft w p E WA wc hm vs h) {v : Value} (hv : h (E.delivered + 1) = some v)
    (h2 : Ext (w.setCell ⟨p, 4, none⟩ (.int .i64 (E.delivered + 1))) w2) (h3 : w2.grownBy w3 (some hm)) (hmap : HeldMap w3 hm E.tot (E.cnt - 1) (fun j => if j = E.delivered + 1 then none else h j)) :
    0 < E.cnt ∧ (∃ m, E.held (E.delivered + 1) = some m ∧ Msg Mu w3 v m) ∧ IsEnd Mu Ft w3 p (stepD E) WA wc hm vs (fun j => if j = E.delivered + 1 then none else h j) ∧ Kept Ft w w3 := by
  have ok := I.ok
  have hi : in64 (E.delivered + 1) := by
    have := ok.d0; have := ok.d1
    unfold in64; omega
  have hcp := I.map.pos hi hv
  have hk : Kept (fun b => b = p ∨ b = hm) w w3 := by
    refine ((Kept.setCell (F := fun b => b = p ∨ b = hm) (p := ⟨p, 4, none⟩) w (Or.inl rfl) _).trans (Kept.of_ext h2)).trans (Kept.of_grown h3 (fun b hb _ => ?_))
    injection hb with hb
    exact Or.inr hb.symm
  have hF : ∀ b, (b = p ∨ b = hm) → Ft b := by
    rintro b (rfl | rfl)
    · exact I.fp
    · exact I.fh
  have hkM : ∀ b, (b = p ∨ b = hm) → Mu b := fun b hb => I.fm b (hF b hb)
  refine ⟨hcp, ?_, ?_, hk.mono (fun b _ => hF b)⟩
  · have := I.held _ hi
    rw [hv] at this
    cases hc : E.held (E.delivered + 1) with
    | none => rw [hc] at this; exact this.elim
    | some m =>
      rw [hc] at this
      exact ⟨m, rfl, Msg.keep this hk hkM (fun _ _ h => h)⟩
  · refine I.change hk rfl ?_ hmap (fun i hi2 => ?_) ?_
    · have hb : Blk (w.setCell ⟨p, 4, none⟩ (.int .i64 (E.delivered + 1))) p 65 (endC (stepD E) (.slice WA E.waiting.length wc) hm) := by
        have := I.blk.set 4 (.int .i64 (E.delivered + 1))
        simpa [endC, stepD] using this
      refine Kept.blk (F := fun b => b = hm) (Kept.of_grown h3 (fun b hb _ => ?_)) (hb.ext h2) (fun hf => I.map.ne_blk I.blk hf.symm)
      injection hb with hb
      exact hb.symm
    · by_cases hie : i = E.delivered + 1
      · simp only [stepD, hie, if_true]; trivial
      · simp only [stepD, hie, if_false]
        exact (I.held i hi2).keep hk hkM (fun _ _ h => h)
    · obtain ⟨o1, o2, o3, o4, o5, o6, o7, o8, o9, o10, o11, o12⟩ := ok
      constructor <;> simp [stepD] <;> omega
set_option maxHeartbeats 4000000 in
set_option maxRecDepth 100000 in
theorem deliver_any (Mu Ft : Nat → Prop) (p : Nat) (E : EndS) (w : World) (hE : EndAt Mu Ft w p E) :
    Calls Try.prog 38 #[.pointer (some ⟨p, 0, none⟩)] w fun e w' => ∃ OA oc n ovs, e = .returned (.slice OA n oc) ∧ (deliverN E.cnt E []).1.length = n ∧ w'.ownsRow w.heap.size 33 1 (.slice OA n oc) n ovs ∧ Msgs Mu w' ovs (deliverN E.cnt E []).1 ∧ Kept Ft w w' ∧ EndAt Mu Ft w' p (deliverN E.cnt E []).2 := by
  obtain ⟨hml, WA, wc, hm, vs, h, I00⟩ := hE
  obtain ⟨M1, hM1⟩ : ∃ M1 : Nat → Prop, M1 = fun b => Mu b ∨ w.heap.size ≤ b := ⟨_, rfl⟩
  have I0 : IsEnd M1 Ft w p E WA wc hm vs h := I00.mu (fun b hb h1 => by rw [hM1] at h1; exact h1.resolve_right (by omega)) (fun b hb => by rw [hM1]; exact Or.inl (I00.fm b hb))
  have HML := Lib.hid hml; have HM1 := Lib.hid hM1; have HFM := Lib.hid I00.fm
  have HFL := Lib.hid I00.fl
  clear hml hM1 I00
  obtain ⟨i0, hi, hz0, hz1, hz2⟩ := info_parts u8_bytes
  have I0' := Lib.hid I0
  obtain ⟨R, hR⟩ : ∃ R, R = deliverN E.cnt E [] := ⟨_, rfl⟩
  rw [← hR]
  have HR := Lib.hid hR
  clear hR I0
  go_enter Try.func38, Try.ntmps38
  go_wp2_with fail
  go_loopw [3] (fun s3 wr => ∃ E' h' OA oc n ovs oms, s3 = .slice OA n oc ∧ oms.length = n ∧ wr.ownsRow w.heap.size 33 1 (.slice OA n oc) n ovs ∧ Msgs M1 wr ovs oms ∧ Kept Ft w wr ∧ IsEnd M1 Ft wr p E' WA wc hm vs h' ∧ deliverN E'.cnt E' oms = R ∧ E'.delivered + E'.cnt = E.delivered + E.cnt ∧ n + E'.cnt = E.cnt) (fun _ wr => (E.delivered + E.cnt).toNat - (intOf ((wr.cell? ⟨p, 4, none⟩).getD undef)).toNat)
  case atStart =>
    exact ⟨E, h, none, 0, 0, [], [], rfl, rfl, World.ownsRow_nil _ _ _ _, Msgs.nil _ _, Kept.refl _ _, I0'.out, HR.out.symm, rfl, by omega⟩
  case round =>
    obtain ⟨E', h', OA, oc, n, ovs, oms, rfl, hn, ho, hms, hk, I, hd1, hd2, hd3⟩ := hrel
    have ok := I.ok
    have ok0 := I0'.out.ok.d0
    have HPW := Lib.hid I.blk.lt
    obtain ⟨d, hd⟩ : ∃ d, d = E'.delivered := ⟨_, rfl⟩
    have hc4 : wr.cell? ⟨p, 4, none⟩ = some (.int .i64 d) := by rw [hd]; exact I.blk.cell 4
    have hc5 : wr.cell? ⟨p, 5, none⟩ = some (.map (some hm)) := I.blk.cell 5
    have hD0 : 0 ≤ d := by rw [hd]; exact ok.d0
    have hDc : d + E'.cnt ≤ 1000000000 := by rw [hd]; exact ok.d1
    have HIN : Hid (in64 (d + 1)) := Lib.hid (by unfold in64; omega)
    have HMAP := Lib.hid I.map
    have HO := Lib.hid ho; have HMS := Lib.hid hms; have HK := Lib.hid hk; have HI := Lib.hid I; have HD := Lib.hid hd; have HN := Lib.hid hn; have HRR := Lib.hid hd1; have HS := Lib.hid hd2; have HT := Lib.hid hd3
    have hnb : n ≤ 1000000000 := by omega
    rw [← hd] at hd2
    obtain ⟨tt, htt⟩ : ∃ t : Int, t = E.delivered + E.cnt := ⟨_, rfl⟩
    clear ho hms hk I hd hd1 ok hn
    cases hv : h' (d + 1) with
    | none =>
      have HV := Lib.hid hv
      clear hv
      go_upto_region 2 with fail
      refine wp_region_flow 15 (by kernel_rfl) (by kernel_rfl) (fun a b => Ext a b) Ext.refl (fun h1 h2 => h1.next h2) (fun i v W => match i with
        | 0 => v = .pointer (some ⟨p, 0, none⟩)
        | 1 => v = .pointer (some ⟨p, 0, none⟩)
        | 2 => v = .pointer (some ⟨p, 5, none⟩)
        | 3 => v = .map (some hm)
        | 4 => v = .pointer (some ⟨p, 0, none⟩)
        | 5 => v = .pointer (some ⟨p, 0, none⟩)
        | 6 => v = .pointer (some ⟨p, 4, none⟩)
        | 7 => v = .int .i64 d
        | 8 => v = .int .i64 (d + 1)
        | 9 => v = .tuple #[.slice none 0 0, .bool false]
        | 10 => v = .tuple #[.slice none 0 0, .bool false]
        | 11 => v = .slice none 0 0
        | 12 => v = .bool false
        | 13 => v = .slice none 0 0
        | 14 => v = .bool false
        | _ => True) ?_ ?_
      · simp only [List.take_succ_cons, List.take_zero, flowSteps]
        refine ⟨?_, ?_, ?_, ?_, ?_, ?_, ?_, ?_, ?_, ?_, ?_, ?_, ?_, ?_, ?_, trivial⟩
        · intro us W K hE hd hK
          simp only [flowAct, Nat.zero_add, Nat.reduceAdd, Act.put, List.setIfInBounds_toArray, List.set_cons_succ, List.set_cons_zero] at hK ⊢
          have HK := Lib.hid hK; have HE := Lib.hid hE
          clear hK hd hE
          go_wp2_with fail
          exact K_at (HK.out (.pointer (some ⟨p, 0, none⟩)) W (fun _ _ => rfl) (Ext.refl W)) (by kernel_rfl)
        · intro us W K hE hd hK
          have d0 := hd 0 (by kernel_rfl)
          simp only [flowAct, Nat.zero_add, Nat.reduceAdd, Act.put, List.setIfInBounds_toArray, List.set_cons_succ, List.set_cons_zero] at hK ⊢
          rw [d0] at hK ⊢
          have HK := Lib.hid hK; have HE := Lib.hid hE
          clear hK hd hE d0
          go_wp2_with fail
          exact K_at (HK.out (.pointer (some ⟨p, 0, none⟩)) W (fun _ _ => rfl) (Ext.refl W)) (by kernel_rfl)
        · intro us W K hE hd hK
          have d1 := hd 1 (by kernel_rfl)
          simp only [flowAct, Nat.zero_add, Nat.reduceAdd, Act.put, List.setIfInBounds_toArray, List.set_cons_succ, List.set_cons_zero] at hK ⊢
          rw [d1] at hK ⊢
          have HK := Lib.hid hK; have HE := Lib.hid hE
          clear hK hd hE d1
          go_wp2_with fail
          exact K_at (HK.out (.pointer (some ⟨p, 5, none⟩)) W (fun _ _ => rfl) (Ext.refl W)) (by kernel_rfl)
        · intro us W K hE hd hK
          have d2 := hd 2 (by kernel_rfl)
          have c0 := hE.cell (p := ⟨p, 5, none⟩) HPW.out
          rw [show (wr.drew).cell? ⟨p, 5, none⟩ = some (.map (some hm)) from hc5] at c0
          simp only [flowAct, Nat.zero_add, Nat.reduceAdd, Act.put, List.setIfInBounds_toArray, List.set_cons_succ, List.set_cons_zero] at hK ⊢
          rw [d2] at hK ⊢
          have HK := Lib.hid hK; have HE := Lib.hid hE
          clear hK hd hE d2
          go_wp2_with fail
          exact K_at (HK.out (.map (some hm)) W (fun _ _ => rfl) (Ext.refl W)) (by kernel_rfl)
        · intro us W K hE hd hK
          simp only [flowAct, Nat.zero_add, Nat.reduceAdd, Act.put, List.setIfInBounds_toArray, List.set_cons_succ, List.set_cons_zero] at hK ⊢
          have HK := Lib.hid hK; have HE := Lib.hid hE
          clear hK hd hE
          go_wp2_with fail
          exact K_at (HK.out (.pointer (some ⟨p, 0, none⟩)) W (fun _ _ => rfl) (Ext.refl W)) (by kernel_rfl)
        · intro us W K hE hd hK
          have d4 := hd 4 (by kernel_rfl)
          simp only [flowAct, Nat.zero_add, Nat.reduceAdd, Act.put, List.setIfInBounds_toArray, List.set_cons_succ, List.set_cons_zero] at hK ⊢
          rw [d4] at hK ⊢
          have HK := Lib.hid hK; have HE := Lib.hid hE
          clear hK hd hE d4
          go_wp2_with fail
          exact K_at (HK.out (.pointer (some ⟨p, 0, none⟩)) W (fun _ _ => rfl) (Ext.refl W)) (by kernel_rfl)
        · intro us W K hE hd hK
          have d5 := hd 5 (by kernel_rfl)
          simp only [flowAct, Nat.zero_add, Nat.reduceAdd, Act.put, List.setIfInBounds_toArray, List.set_cons_succ, List.set_cons_zero] at hK ⊢
          rw [d5] at hK ⊢
          have HK := Lib.hid hK; have HE := Lib.hid hE
          clear hK hd hE d5
          go_wp2_with fail
          exact K_at (HK.out (.pointer (some ⟨p, 4, none⟩)) W (fun _ _ => rfl) (Ext.refl W)) (by kernel_rfl)
        · intro us W K hE hd hK
          have d6 := hd 6 (by kernel_rfl)
          have c0 := hE.cell (p := ⟨p, 4, none⟩) HPW.out
          rw [show (wr.drew).cell? ⟨p, 4, none⟩ = some (.int .i64 d) from hc4] at c0
          simp only [flowAct, Nat.zero_add, Nat.reduceAdd, Act.put, List.setIfInBounds_toArray, List.set_cons_succ, List.set_cons_zero] at hK ⊢
          rw [d6] at hK ⊢
          have HK := Lib.hid hK; have HE := Lib.hid hE
          clear hK hd hE d6
          go_wp2_with fail
          exact K_at (HK.out (.int .i64 d) W (fun _ _ => rfl) (Ext.refl W)) (by kernel_rfl)
        · intro us W K hE hd hK
          have d7 := hd 7 (by kernel_rfl)
          simp only [flowAct, Nat.zero_add, Nat.reduceAdd, Act.put, List.setIfInBounds_toArray, List.set_cons_succ, List.set_cons_zero] at hK ⊢
          rw [d7] at hK ⊢
          have HK := Lib.hid hK; have HE := Lib.hid hE
          clear hK hd hE d7
          go_wp2_with fail
          exact K_at (HK.out (.int .i64 (d + 1)) W (fun _ _ => rfl) (Ext.refl W)) (by kernel_rfl)
        · intro us W K hE hd hK
          have d3 := hd 3 (by kernel_rfl)
          have d8 := hd 8 (by kernel_rfl)
          have hMW := HMAP.out.kept (Kept.of_ext (F := fun _ => False) (show Ext wr W from (Ext.refl wr).drew.next hE)) id
          simp only [flowAct, Nat.zero_add, Nat.reduceAdd, Act.put, List.setIfInBounds_toArray, List.set_cons_succ, List.set_cons_zero] at hK ⊢
          rw [d3, d8] at hK ⊢
          have HK := Lib.hid hK; have HE := Lib.hid hE
          clear hK hd hE d3 d8
          refine wpList_look_held rfl (.tmp 10) (.tmp 15) rfl rfl hMW (d + 1) rfl HIN.out ?_
          rw [HV.out]
          change K _ _
          exact K_at (HK.out (.tuple #[.slice none 0 0, .bool false]) W (fun _ _ => rfl) (Ext.refl W)) (by kernel_rfl)
        · intro us W K hE hd hK
          have d9 := hd 9 (by kernel_rfl)
          simp only [flowAct, Nat.zero_add, Nat.reduceAdd, Act.put, List.setIfInBounds_toArray, List.set_cons_succ, List.set_cons_zero] at hK ⊢
          rw [d9] at hK ⊢
          have HK := Lib.hid hK; have HE := Lib.hid hE
          clear hK hd hE d9
          go_wp2_with fail
          exact K_at (HK.out (.tuple #[.slice none 0 0, .bool false]) W (fun _ _ => rfl) (Ext.refl W)) (by kernel_rfl)
        · intro us W K hE hd hK
          have d10 := hd 10 (by kernel_rfl)
          simp only [flowAct, Nat.zero_add, Nat.reduceAdd, Act.put, List.setIfInBounds_toArray, List.set_cons_succ, List.set_cons_zero] at hK ⊢
          rw [d10] at hK ⊢
          have HK := Lib.hid hK; have HE := Lib.hid hE
          clear hK hd hE d10
          go_wp2_with fail
          exact K_at (HK.out (.slice none 0 0) W (fun _ _ => rfl) (Ext.refl W)) (by kernel_rfl)
        · intro us W K hE hd hK
          have d10 := hd 10 (by kernel_rfl)
          simp only [flowAct, Nat.zero_add, Nat.reduceAdd, Act.put, List.setIfInBounds_toArray, List.set_cons_succ, List.set_cons_zero] at hK ⊢
          rw [d10] at hK ⊢
          have HK := Lib.hid hK; have HE := Lib.hid hE
          clear hK hd hE d10
          go_wp2_with fail
          exact K_at (HK.out (.bool false) W (fun _ _ => rfl) (Ext.refl W)) (by kernel_rfl)
        · intro us W K hE hd hK
          have d11 := hd 11 (by kernel_rfl)
          simp only [flowAct, Nat.zero_add, Nat.reduceAdd, Act.put, List.setIfInBounds_toArray, List.set_cons_succ, List.set_cons_zero] at hK ⊢
          rw [d11] at hK ⊢
          have HK := Lib.hid hK; have HE := Lib.hid hE
          clear hK hd hE d11
          go_wp2_with fail
          exact K_at (HK.out (.slice none 0 0) W (fun _ _ => rfl) (Ext.refl W)) (by kernel_rfl)
        · intro us W K hE hd hK
          have d12 := hd 12 (by kernel_rfl)
          simp only [flowAct, Nat.zero_add, Nat.reduceAdd, Act.put, List.setIfInBounds_toArray, List.set_cons_succ, List.set_cons_zero] at hK ⊢
          rw [d12] at hK ⊢
          have HK := Lib.hid hK; have HE := Lib.hid hE
          clear hK hd hE d12
          go_wp2_with fail
          exact K_at (HK.out (.bool false) W (fun _ _ => rfl) (Ext.refl W)) (by kernel_rfl)
      · intro us W hE hd
        have d13 := hd 13 (by decide)
        have d14 := hd 14 (by decide)
        simp only [List.take_succ_cons, List.take_zero, List.drop_succ_cons, List.drop_zero, flowAct, Nat.zero_add, Nat.reduceAdd, Act.put, List.setIfInBounds_toArray, List.set_cons_succ, List.set_cons_zero]
        rw [d13, d14]
        have E2 : Hid (Ext wr W) := Lib.hid ((Ext.refl wr).drew.next hE)
        clear hE hd d13 d14
        simp only [wpList, Exit.then, Act.put, List.setIfInBounds_toArray, List.set_cons_succ, List.set_cons_zero]
        go_wp2_with fail
        go_ret
        have HK2 : Kept Ft w W := HK.out.trans (Kept.of_ext E2.out)
        have hh : E'.held (d + 1) = none := by
          have := HI.out.held _ HIN.out
          rw [HV.out] at this
          cases hc : E'.held (d + 1) with
          | none => rfl
          | some m => rw [hc] at this; exact this.elim
        have hRR : R = (oms, E') := by
          rw [← HRR.out]
          cases E'.cnt with
          | zero => rfl
          | succ k => simp only [deliverN, ← HD.out, hh]
        rw [hRR]
        have hM : ∀ b, b < W.heap.size → Mu b → M1 b := fun b _ h => by rw [HM1.out]; exact Or.inl h
        exact ⟨OA, oc, n, ovs, rfl, HN.out, own_ext E2.out HO.out, HMS.out.keep (Kept.of_ext (F := fun _ => False) E2.out) (fun _ h => h.elim) (fun b _ h => by rw [HM1.out]; exact Or.inl h), HK2, fun b hb => Nat.lt_of_lt_of_le (HML.out b hb) HK2.size, WA, wc, hm, vs, h', (HI.out.ext E2.out).mu hM HFM.out⟩
    | some mv =>
      have HV := Lib.hid hv
      clear hv
      go_upto_region 2 with fail
      refine wp_region_flow 15 (by kernel_rfl) (by kernel_rfl) (fun a b => Ext a b) Ext.refl (fun h1 h2 => h1.next h2) (fun i v W => match i with
        | 0 => v = .pointer (some ⟨p, 0, none⟩)
        | 1 => v = .pointer (some ⟨p, 0, none⟩)
        | 2 => v = .pointer (some ⟨p, 5, none⟩)
        | 3 => v = .map (some hm)
        | 4 => v = .pointer (some ⟨p, 0, none⟩)
        | 5 => v = .pointer (some ⟨p, 0, none⟩)
        | 6 => v = .pointer (some ⟨p, 4, none⟩)
        | 7 => v = .int .i64 d
        | 8 => v = .int .i64 (d + 1)
        | 9 => v = .tuple #[mv, .bool true]
        | 10 => v = .tuple #[mv, .bool true]
        | 11 => v = mv
        | 12 => v = .bool true
        | 13 => v = mv
        | 14 => v = .bool true
        | _ => True) ?_ ?_
      · simp only [List.take_succ_cons, List.take_zero, flowSteps]
        refine ⟨?_, ?_, ?_, ?_, ?_, ?_, ?_, ?_, ?_, ?_, ?_, ?_, ?_, ?_, ?_, trivial⟩
        · intro us W K hE hd hK
          simp only [flowAct, Nat.zero_add, Nat.reduceAdd, Act.put, List.setIfInBounds_toArray, List.set_cons_succ, List.set_cons_zero] at hK ⊢
          have HK := Lib.hid hK; have HE := Lib.hid hE
          clear hK hd hE
          go_wp2_with fail
          exact K_at (HK.out (.pointer (some ⟨p, 0, none⟩)) W (fun _ _ => rfl) (Ext.refl W)) (by kernel_rfl)
        · intro us W K hE hd hK
          have d0 := hd 0 (by kernel_rfl)
          simp only [flowAct, Nat.zero_add, Nat.reduceAdd, Act.put, List.setIfInBounds_toArray, List.set_cons_succ, List.set_cons_zero] at hK ⊢
          rw [d0] at hK ⊢
          have HK := Lib.hid hK; have HE := Lib.hid hE
          clear hK hd hE d0
          go_wp2_with fail
          exact K_at (HK.out (.pointer (some ⟨p, 0, none⟩)) W (fun _ _ => rfl) (Ext.refl W)) (by kernel_rfl)
        · intro us W K hE hd hK
          have d1 := hd 1 (by kernel_rfl)
          simp only [flowAct, Nat.zero_add, Nat.reduceAdd, Act.put, List.setIfInBounds_toArray, List.set_cons_succ, List.set_cons_zero] at hK ⊢
          rw [d1] at hK ⊢
          have HK := Lib.hid hK; have HE := Lib.hid hE
          clear hK hd hE d1
          go_wp2_with fail
          exact K_at (HK.out (.pointer (some ⟨p, 5, none⟩)) W (fun _ _ => rfl) (Ext.refl W)) (by kernel_rfl)
        · intro us W K hE hd hK
          have d2 := hd 2 (by kernel_rfl)
          have c0 := hE.cell (p := ⟨p, 5, none⟩) HPW.out
          rw [show (wr.drew).cell? ⟨p, 5, none⟩ = some (.map (some hm)) from hc5] at c0
          simp only [flowAct, Nat.zero_add, Nat.reduceAdd, Act.put, List.setIfInBounds_toArray, List.set_cons_succ, List.set_cons_zero] at hK ⊢
          rw [d2] at hK ⊢
          have HK := Lib.hid hK; have HE := Lib.hid hE
          clear hK hd hE d2
          go_wp2_with fail
          exact K_at (HK.out (.map (some hm)) W (fun _ _ => rfl) (Ext.refl W)) (by kernel_rfl)
        · intro us W K hE hd hK
          simp only [flowAct, Nat.zero_add, Nat.reduceAdd, Act.put, List.setIfInBounds_toArray, List.set_cons_succ, List.set_cons_zero] at hK ⊢
          have HK := Lib.hid hK; have HE := Lib.hid hE
          clear hK hd hE
          go_wp2_with fail
          exact K_at (HK.out (.pointer (some ⟨p, 0, none⟩)) W (fun _ _ => rfl) (Ext.refl W)) (by kernel_rfl)
        · intro us W K hE hd hK
          have d4 := hd 4 (by kernel_rfl)
          simp only [flowAct, Nat.zero_add, Nat.reduceAdd, Act.put, List.setIfInBounds_toArray, List.set_cons_succ, List.set_cons_zero] at hK ⊢
          rw [d4] at hK ⊢
          have HK := Lib.hid hK; have HE := Lib.hid hE
          clear hK hd hE d4
          go_wp2_with fail
          exact K_at (HK.out (.pointer (some ⟨p, 0, none⟩)) W (fun _ _ => rfl) (Ext.refl W)) (by kernel_rfl)
        · intro us W K hE hd hK
          have d5 := hd 5 (by kernel_rfl)
          simp only [flowAct, Nat.zero_add, Nat.reduceAdd, Act.put, List.setIfInBounds_toArray, List.set_cons_succ, List.set_cons_zero] at hK ⊢
          rw [d5] at hK ⊢
          have HK := Lib.hid hK; have HE := Lib.hid hE
          clear hK hd hE d5
          go_wp2_with fail
          exact K_at (HK.out (.pointer (some ⟨p, 4, none⟩)) W (fun _ _ => rfl) (Ext.refl W)) (by kernel_rfl)
        · intro us W K hE hd hK
          have d6 := hd 6 (by kernel_rfl)
          have c0 := hE.cell (p := ⟨p, 4, none⟩) HPW.out
          rw [show (wr.drew).cell? ⟨p, 4, none⟩ = some (.int .i64 d) from hc4] at c0
          simp only [flowAct, Nat.zero_add, Nat.reduceAdd, Act.put, List.setIfInBounds_toArray, List.set_cons_succ, List.set_cons_zero] at hK ⊢
          rw [d6] at hK ⊢
          have HK := Lib.hid hK; have HE := Lib.hid hE
          clear hK hd hE d6
          go_wp2_with fail
          exact K_at (HK.out (.int .i64 d) W (fun _ _ => rfl) (Ext.refl W)) (by kernel_rfl)
        · intro us W K hE hd hK
          have d7 := hd 7 (by kernel_rfl)
          simp only [flowAct, Nat.zero_add, Nat.reduceAdd, Act.put, List.setIfInBounds_toArray, List.set_cons_succ, List.set_cons_zero] at hK ⊢
          rw [d7] at hK ⊢
          have HK := Lib.hid hK; have HE := Lib.hid hE
          clear hK hd hE d7
          go_wp2_with fail
          exact K_at (HK.out (.int .i64 (d + 1)) W (fun _ _ => rfl) (Ext.refl W)) (by kernel_rfl)
        · intro us W K hE hd hK
          have d3 := hd 3 (by kernel_rfl)
          have d8 := hd 8 (by kernel_rfl)
          have hMW := HMAP.out.kept (Kept.of_ext (F := fun _ => False) (show Ext wr W from (Ext.refl wr).drew.next hE)) id
          simp only [flowAct, Nat.zero_add, Nat.reduceAdd, Act.put, List.setIfInBounds_toArray, List.set_cons_succ, List.set_cons_zero] at hK ⊢
          rw [d3, d8] at hK ⊢
          have HK := Lib.hid hK; have HE := Lib.hid hE
          clear hK hd hE d3 d8
          refine wpList_look_held rfl (.tmp 10) (.tmp 15) rfl rfl hMW (d + 1) rfl HIN.out ?_
          rw [HV.out]
          change K _ _
          exact K_at (HK.out (.tuple #[mv, .bool true]) W (fun _ _ => rfl) (Ext.refl W)) (by kernel_rfl)
        · intro us W K hE hd hK
          have d9 := hd 9 (by kernel_rfl)
          simp only [flowAct, Nat.zero_add, Nat.reduceAdd, Act.put, List.setIfInBounds_toArray, List.set_cons_succ, List.set_cons_zero] at hK ⊢
          rw [d9] at hK ⊢
          have HK := Lib.hid hK; have HE := Lib.hid hE
          clear hK hd hE d9
          go_wp2_with fail
          exact K_at (HK.out (.tuple #[mv, .bool true]) W (fun _ _ => rfl) (Ext.refl W)) (by kernel_rfl)
        · intro us W K hE hd hK
          have d10 := hd 10 (by kernel_rfl)
          simp only [flowAct, Nat.zero_add, Nat.reduceAdd, Act.put, List.setIfInBounds_toArray, List.set_cons_succ, List.set_cons_zero] at hK ⊢
          rw [d10] at hK ⊢
          have HK := Lib.hid hK; have HE := Lib.hid hE
          clear hK hd hE d10
          go_wp2_with fail
          exact K_at (HK.out (mv) W (fun _ _ => rfl) (Ext.refl W)) (by kernel_rfl)
        · intro us W K hE hd hK
          have d10 := hd 10 (by kernel_rfl)
          simp only [flowAct, Nat.zero_add, Nat.reduceAdd, Act.put, List.setIfInBounds_toArray, List.set_cons_succ, List.set_cons_zero] at hK ⊢
          rw [d10] at hK ⊢
          have HK := Lib.hid hK; have HE := Lib.hid hE
          clear hK hd hE d10
          go_wp2_with fail
          exact K_at (HK.out (.bool true) W (fun _ _ => rfl) (Ext.refl W)) (by kernel_rfl)
        · intro us W K hE hd hK
          have d11 := hd 11 (by kernel_rfl)
          simp only [flowAct, Nat.zero_add, Nat.reduceAdd, Act.put, List.setIfInBounds_toArray, List.set_cons_succ, List.set_cons_zero] at hK ⊢
          rw [d11] at hK ⊢
          have HK := Lib.hid hK; have HE := Lib.hid hE
          clear hK hd hE d11
          go_wp2_with fail
          exact K_at (HK.out (mv) W (fun _ _ => rfl) (Ext.refl W)) (by kernel_rfl)
        · intro us W K hE hd hK
          have d12 := hd 12 (by kernel_rfl)
          simp only [flowAct, Nat.zero_add, Nat.reduceAdd, Act.put, List.setIfInBounds_toArray, List.set_cons_succ, List.set_cons_zero] at hK ⊢
          rw [d12] at hK ⊢
          have HK := Lib.hid hK; have HE := Lib.hid hE
          clear hK hd hE d12
          go_wp2_with fail
          exact K_at (HK.out (.bool true) W (fun _ _ => rfl) (Ext.refl W)) (by kernel_rfl)
      · intro us W hE hd
        have d13 := hd 13 (by decide)
        have d14 := hd 14 (by decide)
        simp only [List.take_succ_cons, List.take_zero, List.drop_succ_cons, List.drop_zero, flowAct, Nat.zero_add, Nat.reduceAdd, Act.put, List.setIfInBounds_toArray, List.set_cons_succ, List.set_cons_zero]
        rw [d13, d14]
        have E2 : Hid (Ext wr W) := Lib.hid ((Ext.refl wr).drew.next hE)
        clear hE hd d13 d14
        simp only [wpList, Exit.then, Act.put, List.setIfInBounds_toArray, List.set_cons_succ, List.set_cons_zero]
        have HF4 : W.frozen? ⟨p, 4, none⟩ = false := (HI.out.ext E2.out).blk.frozen 4
        have c4 : W.cell? ⟨p, 4, none⟩ = some (.int .i64 d) := by rw [HD.out]; exact (HI.out.ext E2.out).blk.cell 4
        go_upto_region 6 with fail
        obtain ⟨w1, hw1⟩ : ∃ w1, w1 = W.setCell ⟨p, 4, none⟩ (.int .i64 (d + 1)) := ⟨_, rfl⟩
        rw [← hw1]
        have hb1 : Blk w1 p 65 ((endC E' (.slice WA E'.waiting.length wc) hm).set 4 (.int .i64 (d + 1))) := by rw [hw1]; exact (HI.out.ext E2.out).blk.set 4 _
        have hd4 : w1.cell? ⟨p, 4, none⟩ = some (.int .i64 (d + 1)) := hb1.cell 4
        have hd5 : w1.cell? ⟨p, 5, none⟩ = some (.map (some hm)) := hb1.cell 5
        have HPW1 := Lib.hid hb1.lt
        have HM1b : Hid (HeldMap w1 hm E'.tot E'.cnt h') := Lib.hid (by rw [hw1]; exact (HI.out.ext E2.out).map.kept (Kept.setCell (F := fun b => b = p) (p := ⟨p, 4, none⟩) W rfl _) (fun h => HI.out.map.ne_blk HI.out.blk h))
        have HW1 := Lib.hid hw1
        clear hw1 hb1 c4 HF4 hc4 hc5
        refine wp_region_flow 8 (by kernel_rfl) (by kernel_rfl) (fun a b => Ext a b) Ext.refl (fun h1 h2 => h1.next h2) (fun i v W => match i with
          | 0 => v = .pointer (some ⟨p, 0, none⟩)
          | 1 => v = .pointer (some ⟨p, 0, none⟩)
          | 2 => v = .pointer (some ⟨p, 5, none⟩)
          | 3 => v = .map (some hm)
          | 4 => v = .pointer (some ⟨p, 0, none⟩)
          | 5 => v = .pointer (some ⟨p, 0, none⟩)
          | 6 => v = .pointer (some ⟨p, 4, none⟩)
          | 7 => v = .int .i64 (d + 1)
          | _ => True) ?_ ?_
        · simp only [List.take_succ_cons, List.take_zero, flowSteps]
          refine ⟨?_, ?_, ?_, ?_, ?_, ?_, ?_, ?_, trivial⟩
          · intro us W K hE hd hK
            simp only [flowAct, Nat.zero_add, Nat.reduceAdd, Act.put, List.setIfInBounds_toArray, List.set_cons_succ, List.set_cons_zero] at hK ⊢
            have HK := Lib.hid hK; have HE := Lib.hid hE
            clear hK hd hE
            go_wp2_with fail
            exact K_at (HK.out (.pointer (some ⟨p, 0, none⟩)) W (fun _ _ => rfl) (Ext.refl W)) (by kernel_rfl)
          · intro us W K hE hd hK
            have d0 := hd 0 (by kernel_rfl)
            simp only [flowAct, Nat.zero_add, Nat.reduceAdd, Act.put, List.setIfInBounds_toArray, List.set_cons_succ, List.set_cons_zero] at hK ⊢
            rw [d0] at hK ⊢
            have HK := Lib.hid hK; have HE := Lib.hid hE
            clear hK hd hE d0
            go_wp2_with fail
            exact K_at (HK.out (.pointer (some ⟨p, 0, none⟩)) W (fun _ _ => rfl) (Ext.refl W)) (by kernel_rfl)
          · intro us W K hE hd hK
            have d1 := hd 1 (by kernel_rfl)
            simp only [flowAct, Nat.zero_add, Nat.reduceAdd, Act.put, List.setIfInBounds_toArray, List.set_cons_succ, List.set_cons_zero] at hK ⊢
            rw [d1] at hK ⊢
            have HK := Lib.hid hK; have HE := Lib.hid hE
            clear hK hd hE d1
            go_wp2_with fail
            exact K_at (HK.out (.pointer (some ⟨p, 5, none⟩)) W (fun _ _ => rfl) (Ext.refl W)) (by kernel_rfl)
          · intro us W K hE hd hK
            have d2 := hd 2 (by kernel_rfl)
            have c0 := hE.cell (p := ⟨p, 5, none⟩) HPW1.out
            rw [show (w1.drew).cell? ⟨p, 5, none⟩ = some (.map (some hm)) from hd5] at c0
            simp only [flowAct, Nat.zero_add, Nat.reduceAdd, Act.put, List.setIfInBounds_toArray, List.set_cons_succ, List.set_cons_zero] at hK ⊢
            rw [d2] at hK ⊢
            have HK := Lib.hid hK; have HE := Lib.hid hE
            clear hK hd hE d2
            go_wp2_with fail
            exact K_at (HK.out (.map (some hm)) W (fun _ _ => rfl) (Ext.refl W)) (by kernel_rfl)
          · intro us W K hE hd hK
            simp only [flowAct, Nat.zero_add, Nat.reduceAdd, Act.put, List.setIfInBounds_toArray, List.set_cons_succ, List.set_cons_zero] at hK ⊢
            have HK := Lib.hid hK; have HE := Lib.hid hE
            clear hK hd hE
            go_wp2_with fail
            exact K_at (HK.out (.pointer (some ⟨p, 0, none⟩)) W (fun _ _ => rfl) (Ext.refl W)) (by kernel_rfl)
          · intro us W K hE hd hK
            have d4 := hd 4 (by kernel_rfl)
            simp only [flowAct, Nat.zero_add, Nat.reduceAdd, Act.put, List.setIfInBounds_toArray, List.set_cons_succ, List.set_cons_zero] at hK ⊢
            rw [d4] at hK ⊢
            have HK := Lib.hid hK; have HE := Lib.hid hE
            clear hK hd hE d4
            go_wp2_with fail
            exact K_at (HK.out (.pointer (some ⟨p, 0, none⟩)) W (fun _ _ => rfl) (Ext.refl W)) (by kernel_rfl)
          · intro us W K hE hd hK
            have d5 := hd 5 (by kernel_rfl)
            simp only [flowAct, Nat.zero_add, Nat.reduceAdd, Act.put, List.setIfInBounds_toArray, List.set_cons_succ, List.set_cons_zero] at hK ⊢
            rw [d5] at hK ⊢
            have HK := Lib.hid hK; have HE := Lib.hid hE
            clear hK hd hE d5
            go_wp2_with fail
            exact K_at (HK.out (.pointer (some ⟨p, 4, none⟩)) W (fun _ _ => rfl) (Ext.refl W)) (by kernel_rfl)
          · intro us W K hE hd hK
            have d6 := hd 6 (by kernel_rfl)
            have c0 := hE.cell (p := ⟨p, 4, none⟩) HPW1.out
            rw [show (w1.drew).cell? ⟨p, 4, none⟩ = some (.int .i64 (d + 1)) from hd4] at c0
            simp only [flowAct, Nat.zero_add, Nat.reduceAdd, Act.put, List.setIfInBounds_toArray, List.set_cons_succ, List.set_cons_zero] at hK ⊢
            rw [d6] at hK ⊢
            have HK := Lib.hid hK; have HE := Lib.hid hE
            clear hK hd hE d6
            go_wp2_with fail
            exact K_at (HK.out (.int .i64 (d + 1)) W (fun _ _ => rfl) (Ext.refl W)) (by kernel_rfl)
        · intro us W hE hd
          have d3 := hd 3 (by decide)
          have d7 := hd 7 (by decide)
          simp only [List.take_succ_cons, List.take_zero, List.drop_succ_cons, List.drop_zero, flowAct, Nat.zero_add, Nat.reduceAdd, Act.put, List.setIfInBounds_toArray, List.set_cons_succ, List.set_cons_zero]
          rw [d3, d7]
          have E3 : Hid (Ext w1 W) := Lib.hid ((Ext.refl w1).drew.next hE)
          clear hE hd d3 d7
          have hM2 : HeldMap W hm E'.tot E'.cnt h' := HM1b.out.kept (Kept.of_ext (F := fun _ => False) E3.out) id
          refine wpList_del_held rfl (.tmp 32) (.tmp 36) rfl rfl hM2 (d + 1) rfl HIN.out ?_
          intro w3 hm3 hg3
          rw [HV.out] at hm3
          simp only [Option.isSome_some, if_true] at hm3
          have hst := stepD_plain (HI.out.ext E2.out) (v := mv) (by rw [← HD.out]; exact HV.out) (by rw [← HD.out, ← HW1.out]; exact E3.out) hg3 (by rw [← HD.out]; exact hm3)
          obtain ⟨hcp, ⟨m, hme, hmm⟩, I3, hk3⟩ := hst
          have HK3 : Hid (Kept Ft w w3) := Lib.hid ((HK.out.trans (Kept.of_ext E2.out)).trans hk3)
          have HO3 : Hid (w3.ownsRow w.heap.size 33 1 (.slice OA n oc) n ovs) := Lib.hid (own_kept ((Kept.of_ext E2.out).trans hk3) HFL.out HO.out)
          have hme2 : HeldMap w3 hm 0 0 h' → True := fun _ => trivial
          have HMM := Lib.hid hmm; have HI3 := Lib.hid I3; have HME := Lib.hid hme; have HK23 := Lib.hid hk3
          have HMS3 : Hid (Msgs M1 w3 ovs oms) := Lib.hid (HMS.out.keep ((Kept.of_ext E2.out).trans hk3) (fun b hb => by rw [HM1.out]; exact Or.inl (HFM.out b hb)) (fun _ _ h => h))
          obtain ⟨mA, mc, hmv⟩ : ∃ A c, mv = .slice A m.length c := by
            obtain ⟨_, _, A, c, h5, _⟩ := hmm
            exact ⟨A, c, h5⟩
          subst hmv
          clear hm3 hg3 hM2 hmm I3 hk3 hme hme2
          go_wp2_with (at_builtin; refine wpList_append_own_at _ rfl (.tmp 37) (.tmp 39) 28 rfl w.heap.size 33 i0 (.slice none 0 0) 1 24 Try.underlying28 hi hz0 hz1 hz2 rfl (by omega) (.slice OA n oc) n ovs rfl (own_ext ((Ext.refl w3).alloc _) HO3.out) ⟨w3.heap.size, 0, none⟩ 1 1 [.slice mA m.length mc] rfl rfl (cell_one_new _ _ _) (by simp [Value.oneCell']) (by simp only [maxLen]; omega) (by omega) (Nat.le_trans HK3.out.size ((Ext.refl w3).alloc _).size) ?_; intro v5 w5 ho5 hg5 hn5 hat5; obtain ⟨A5, c5, e5⟩ := own_slice ho5 (Nat.succ_pos _); subst e5; have HO5 := Lib.hid ho5; have HG5 := Lib.hid hg5; clear ho5 hg5 hn5 hat5)
          have hob : ∀ b, (Value.slice OA n oc).ownBlock = some b → w.heap.size ≤ b := by
            intro b hb
            rcases HO3.out.2 with ⟨h1, _⟩ | ⟨g, cap, cur, h1, h2, _⟩
            · rw [h1] at hb; cases hb
            · rw [h1] at hb
              have h4 : g = b := by simpa [Value.ownBlock] using hb
              omega
          have hk35 : Kept (fun b => w.heap.size ≤ b) w3 w5 := (Kept.of_ext ((Ext.refl w3).alloc _)).trans (Kept.of_grown HG5.out (fun b hb _ => hob b hb))
          have hM5 : ∀ b, w.heap.size ≤ b → M1 b := fun b hb => by rw [HM1.out]; exact Or.inr hb
          have hI5 := HI3.out.apart hk35 hM5 (fun b hb hf => by have := HFL.out b hf; omega)
          have h4 : w5.cell? ⟨p, 4, none⟩ = some (.int .i64 (d + 1)) := by rw [HD.out]; exact hI5.blk.cell 4
          have h4r : wr.cell? ⟨p, 4, none⟩ = some (.int .i64 d) := by rw [HD.out]; exact HI.out.blk.cell 4
          refine ⟨⟨stepD E', _, A5, c5, n + 1, _, oms ++ [m], rfl, by rw [List.length_append, HN.out]; rfl, HO5.out, (HMS3.out.snoc HMM.out).keep hk35 hM5 (fun _ _ h => h), HK3.out.next hk35 (fun b hb h => by omega), hI5, ?_, ?_, ?_⟩, ?_⟩
          · rw [← HRR.out]
            obtain ⟨k, hkk⟩ : ∃ k, E'.cnt = k + 1 := ⟨E'.cnt - 1, by omega⟩
            have e : (stepD E').cnt = k := by simp only [stepD]; omega
            rw [e, hkk]
            simp only [deliverN, HME.out]
          · have := HS.out; simp only [stepD]; omega
          · have := HT.out; simp only [stepD]; omega
          · rw [h4, h4r]
            simp only [Option.getD_some, intOf]
            omega
end Go.Proofs.Ytkgmoklifkojhaa
