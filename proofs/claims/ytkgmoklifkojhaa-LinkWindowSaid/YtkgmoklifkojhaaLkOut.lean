/- link's Out: the sealed packets that are to be sent now. Conditions: numbers below a bound. -/
import Derived.Test.YtkgmoklifkojhaaLkDlv
import Derived.Test.YtkgmoklifkojhaaLkPkt
set_option linter.unusedSimpArgs false
set_option linter.unusedVariables false
namespace Go.Proofs.Ytkgmoklifkojhaa
open Go.RowKit
def pktE (E : EndS) (i : Nat) : List Int := sealL E.key (packL (E.acked + i + 1) E.delivered (E.waiting.getD i []))
def outTo (E : EndS) (t : Nat) : List (List Int) := (List.range t).map (pktE E)
def outK (E : EndS) : Nat := min E.waiting.length E.window.toNat
def outL (E : EndS) : List (List Int) := if outK E = 0 ∧ E.owing = true then [sealL E.key (packL 0 E.delivered [])] else outTo E (outK E)
def outE (E : EndS) : EndS := { E with owing := false }
/-- Packets in blocks of their own, each behind the one before. -/
def Pks (w : World) (base : Nat) (ovs : List Value) (ls : List (List Int)) : Prop :=
  ovs.length = ls.length ∧ ∃ G : Nat → Nat, ∀ j, j < ls.length → base ≤ G j ∧ (∀ i, i < j → G i < G j) ∧ ∃ c, ovs.getD j undef = .slice (some ⟨G j, 0, none⟩) (ls.getD j []).length c ∧ w.ownsRow base 5 1 (.slice (some ⟨G j, 0, none⟩) (ls.getD j []).length c) (ls.getD j []).length (u8s (ls.getD j []))
theorem Pks.nil (w : World) (base : Nat) : Pks w base [] [] := ⟨rfl, fun _ => 0, fun j hj => by simp at hj⟩
theorem own_lt {w : World} {b : Nat} {e : TypeId} {size : Nat} {g n c : Nat} {xs : List Value} (ho : w.ownsRow b e size (.slice (some ⟨g, 0, none⟩) n c) n xs) : b ≤ g ∧ g < w.heap.size := by
  rcases ho.2 with ⟨h1, _⟩ | ⟨g', cap, cur, h1, h2, h3, _⟩
  · cases h1
  · injection h1 with h1
    injection h1 with h1
    injection h1 with h1
    subst h1
    exact ⟨h2, (Array.getElem?_eq_some_iff.1 h3).1⟩
theorem own_tag {w : World} {b b' : Nat} {e e' : TypeId} {size size' : Nat} {v v' : Value} {n n' : Nat} {xs xs' : List Value} (ho : w.ownsRow b e size v n xs) (ho' : w.ownsRow b' e' size' v' n' xs') (he : e ≠ e') {k : Nat} (hk : v.ownBlock = some k) (hk' : v'.ownBlock = some k) : False := by
  rcases ho.2 with ⟨h1, _⟩ | ⟨g, cap, cur, h1, _, h3, _⟩
  · rw [h1] at hk; cases hk
  · rcases ho'.2 with ⟨h1', _⟩ | ⟨g', cap', cur', h1', _, h3', _⟩
    · rw [h1'] at hk'; cases hk'
    · rw [h1] at hk; rw [h1'] at hk'
      have e1 : g = k := by simpa [Value.ownBlock] using hk
      have e2 : g' = k := by simpa [Value.ownBlock] using hk'
      rw [e1] at h3; rw [e2] at h3'
      rw [h3] at h3'
      injection h3' with h3'; injection h3' with _ h3'
      exact he h3'
theorem Pks.map {w w' : World} {base : Nat} {ovs : List Value} {ls : List (List Int)} (h : Pks w base ovs ls) (hm : ∀ g n c xs, w.ownsRow base 5 1 (.slice (some ⟨g, 0, none⟩) n c) n xs → w'.ownsRow base 5 1 (.slice (some ⟨g, 0, none⟩) n c) n xs) : Pks w' base ovs ls := by
  obtain ⟨h1, G, h2⟩ := h
  refine ⟨h1, G, fun j hj => ?_⟩
  obtain ⟨h3, h4, c, h5, h6⟩ := h2 j hj
  exact ⟨h3, h4, c, h5, hm _ _ _ _ h6⟩
theorem Pks.snoc {w : World} {base B : Nat} {ovs : List Value} {ls : List (List Int)} {v : Value} {l : List Int} {A : Option Addr} {c : Nat} (h : Pks w base ovs ls) (hB : ∀ g n c xs, w.ownsRow base 5 1 (.slice (some ⟨g, 0, none⟩) n c) n xs → (∃ j, j < ls.length ∧ ovs.getD j undef = .slice (some ⟨g, 0, none⟩) n c) → g < B) (hb : base ≤ B) (hv : v = .slice A l.length c) (ho : w.ownsRow B 5 1 (.slice A l.length c) l.length (u8s l)) (hl : 0 < l.length) : Pks w base (ovs ++ [v]) (ls ++ [l]) := by
  obtain ⟨h1, G, h2⟩ := h
  rcases ho.2 with ⟨_, h3⟩ | ⟨g, cap, cur, h3, h4, h5, h6⟩
  · omega
  injection h3 with h3 _ h3c
  subst h3; subst h3c
  refine ⟨by simp [h1], fun j => if j < ls.length then G j else g, fun j hj => ?_⟩
  simp only [List.length_append, List.length_cons, List.length_nil] at hj
  by_cases hjl : j < ls.length
  · obtain ⟨e1, e2, c', e3, e4⟩ := h2 j hjl
    have hg1 : (ovs ++ [v]).getD j undef = ovs.getD j undef := by
      rw [List.getD_eq_getElem?_getD, List.getD_eq_getElem?_getD, List.getElem?_append_left (by omega)]
    have hg2 : (ls ++ [l]).getD j [] = ls.getD j [] := by
      rw [List.getD_eq_getElem?_getD, List.getD_eq_getElem?_getD, List.getElem?_append_left hjl]
    simp only [hjl, if_true]
    rw [hg1, hg2]
    refine ⟨e1, fun i hi => ?_, c', e3, e4⟩
    rw [if_pos (by omega)]
    exact e2 i hi
  · obtain rfl : j = ls.length := by omega
    have hg1 : (ovs ++ [v]).getD ls.length undef = v := by
      rw [List.getD_eq_getElem?_getD, List.getElem?_append_right (by omega), h1]; simp
    have hg2 : (ls ++ [l]).getD ls.length [] = l := by
      rw [List.getD_eq_getElem?_getD, List.getElem?_append_right (Nat.le_refl _)]; simp
    simp only [Nat.lt_irrefl, if_false]
    rw [hg1, hg2]
    refine ⟨by omega, fun i hi => ?_, _, hv, own_mono ho hb⟩
    rw [if_pos hi]
    obtain ⟨_, _, c', e3, e4⟩ := h2 i hi
    exact Nat.lt_of_lt_of_le (hB _ _ _ _ e4 ⟨i, hi, e3⟩) h4
theorem own_rd {w : World} {b : Nat} {A : Option Addr} {c : Nat} {l : List Int} (ho : w.ownsRow b 5 1 (.slice A l.length c) l.length (u8s l)) : Rd w w.heap.size A l.length (u8s l) := Rd.of_own ho
theorem own_ge {w : World} {b : Nat} {e : TypeId} {size : Nat} {v : Value} {n : Nat} {xs : List Value} (ho : w.ownsRow b e size v n xs) {k : Nat} (hk : v.ownBlock = some k) : b ≤ k := by
  rcases ho.2 with ⟨h1, _⟩ | ⟨g, cap, cur, h1, h2, _⟩
  · rw [h1] at hk; cases hk
  · rw [h1] at hk
    have h4 : g = k := by simpa [Value.ownBlock] using hk
    omega
theorem out_round {E : EndS} {w wr W w5 : World} {t : Nat} {OA A8 : Option Addr} {oc c8 : Nat} {ovs : List Value} {SK : List Int} (HPK0 : Pks wr w.heap.size ovs (outTo E t)) (HEr : Ext w wr) (E5 : Ext wr W) (HO8 : W.ownsRow wr.heap.size 5 1 (.slice A8 SK.length c8) SK.length (u8s SK)) (HSL : 0 < SK.length)
    (HO5 : W.ownsRow w.heap.size 33 1 (.slice OA t oc) t ovs) (HG5 : W.grownBy w5 (Value.slice OA t oc).ownBlock) : Pks w5 w.heap.size (ovs ++ [.slice A8 SK.length c8]) (outTo E t ++ [SK]) ∧ Ext w w5 := by
  constructor
  · have hpW : Pks W w.heap.size ovs (outTo E t) := HPK0.map (fun g n c xs h => own_ext E5 h)
    have h1 : Pks W w.heap.size (ovs ++ [.slice A8 SK.length c8]) (outTo E t ++ [SK]) := by
      refine hpW.snoc (B := wr.heap.size) ?_ HEr.size rfl HO8 HSL
      rintro g n c xs _ ⟨j, hj, hv⟩
      obtain ⟨_, G, h2⟩ := HPK0
      obtain ⟨_, _, c', h3, h4⟩ := h2 j hj
      rw [hv] at h3
      injection h3 with h3
      injection h3 with h3
      injection h3 with h3
      rw [h3]
      exact (own_lt h4).2
    exact h1.map (fun g n c xs h => (Kept.of_grown (F := fun b => (Value.slice OA t oc).ownBlock = some b) HG5 (fun b hb _ => hb)).own h (fun b hb hf => own_tag HO5 h (by decide) hf hb))
  · exact ((Kept.of_ext (F := fun b => w.heap.size ≤ b) (HEr.next E5)).trans (Kept.of_grown HG5 (fun b hb _ => own_ge HO5 hb))).ext (fun b hb => hb)
theorem out_plain {Mu Ft : Nat → Prop} {w W : World} {p : Nat} {E : EndS} {WA : Option Addr} {wc hm : Nat} {vs : List Value} {h : Int → Option Value} (hml : ∀ b, Mu b → b < w.heap.size) (I : IsEnd Mu Ft w p E WA wc hm vs h) (hE : Ext w W) {v : Value} {n : Nat} {ovs : List Value} {ls : List (List Int)} (ho : W.ownsRow w.heap.size 33 1 v n ovs) (hp : Pks W w.heap.size ovs ls) :
    (W.setCell ⟨p, 6, none⟩ (.bool false)).ownsRow w.heap.size 33 1 v n ovs ∧ Pks (W.setCell ⟨p, 6, none⟩ (.bool false)) w.heap.size ovs ls ∧ Kept Ft w (W.setCell ⟨p, 6, none⟩ (.bool false)) ∧ EndAt (fun b => Mu b ∨ (w.heap.size ≤ b ∧ b < (W.setCell ⟨p, 6, none⟩ (.bool false)).heap.size)) Ft (W.setCell ⟨p, 6, none⟩ (.bool false)) p (outE E) := by
  have hk1 : Kept (fun b => b = p ∨ b = hm) W (W.setCell ⟨p, 6, none⟩ (.bool false)) := Kept.setCell (p := ⟨p, 6, none⟩) W (Or.inl rfl) _
  have hpw := I.blk.lt
  have hmw := I.map.lt
  have hF : ∀ k, (k = p ∨ k = hm) → k < w.heap.size := by rintro k (rfl | rfl) <;> assumption
  have hk : Kept Ft w (W.setCell ⟨p, 6, none⟩ (.bool false)) := (Kept.of_ext hE).trans (hk1.mono (fun b _ hb => hb.elim (fun h => by rw [h]; exact I.fp) (fun h => by rw [h]; exact I.fh)))
  refine ⟨own_kept hk1 hF ho, hp.map (fun g n c xs h => own_kept hk1 hF h), hk, ?_, WA, wc, hm, vs, h, ?_⟩
  · rintro b (hb | hb)
    · exact Nat.lt_of_lt_of_le (hml b hb) hk.size
    · exact hb.2
  · have I1 : IsEnd (fun b => Mu b ∨ w.heap.size ≤ b) Ft w p E WA wc hm vs h := I.mu (fun b hb h1 => h1.resolve_right (by omega)) (fun b hb => Or.inl (I.fm b hb))
    have I2 := I1.ext hE
    have hM : ∀ b, (b = p ∨ b = hm) → Mu b ∨ w.heap.size ≤ b := by
      rintro b (rfl | rfl)
      · exact I2.fm _ I.fp
      · exact I2.fm _ I.fh
    have I3 : IsEnd (fun b => Mu b ∨ w.heap.size ≤ b) Ft (W.setCell ⟨p, 6, none⟩ (.bool false)) p (outE E) WA wc hm vs h := by
      refine I2.change hk1 rfl ?_ (I2.map.kept (Kept.setCell (F := fun b => b = p) (p := ⟨p, 6, none⟩) W rfl _) (fun h => I2.map.ne_blk I2.blk h)) (fun i hi => (I2.held i hi).keep hk1 hM (fun _ _ h => h)) ?_
      · have := I2.blk.set 6 (.bool false)
        simpa [endC, outE] using this
      · obtain ⟨o1, o2, o3, o4, o5, o6, o7, o8, o9, o10, o11, o12⟩ := I.ok
        constructor <;> simp [outE] <;> omega
    exact I3.mu (fun b _ h => h.imp id (fun h => h.1)) (fun b hb => Or.inl (I.fm b hb))
theorem outTo_succ (E : EndS) (t : Nat) : outTo E (t + 1) = outTo E t ++ [pktE E t] := by
  unfold outTo
  rw [List.range_succ, List.map_append]
  rfl
theorem outTo_length (E : EndS) (t : Nat) : (outTo E t).length = t := by simp [outTo]
set_option maxHeartbeats 4000000 in
set_option maxRecDepth 100000 in
theorem out_any (Mu Ft : Nat → Prop) (p : Nat) (E : EndS) (w : World) (hE : EndAt Mu Ft w p E) :
    Calls Try.prog 13 #[.pointer (some ⟨p, 0, none⟩)] w fun e w' => ∃ OA oc n ovs, e = .returned (.slice OA n oc) ∧ (outL E).length = n ∧ w'.ownsRow w.heap.size 33 1 (.slice OA n oc) n ovs ∧ Pks w' w.heap.size ovs (outL E) ∧ Kept Ft w w' ∧ EndAt (fun b => Mu b ∨ (w.heap.size ≤ b ∧ b < w'.heap.size)) Ft w' p (outE E) := by
  obtain ⟨hml, WA, wc, hm, vs, h, I⟩ := hE
  obtain ⟨i0, hi, hz0, hz1, hz2⟩ := info_parts u8_bytes
  have ok := I.ok
  have HML := Lib.hid hml; have HI := Lib.hid I
  have HPW := Lib.hid I.blk.lt
  obtain ⟨nw, hnw⟩ : ∃ k, k = E.waiting.length := ⟨_, rfl⟩
  obtain ⟨wi, hwi⟩ : ∃ k, k = E.window := ⟨_, rfl⟩
  obtain ⟨ky, hky⟩ : ∃ k, k = E.key := ⟨_, rfl⟩
  obtain ⟨ac, hac⟩ : ∃ k, k = E.acked := ⟨_, rfl⟩
  obtain ⟨dl, hdl⟩ : ∃ k, k = E.delivered := ⟨_, rfl⟩
  obtain ⟨ow, how⟩ : ∃ k, k = E.owing := ⟨_, rfl⟩
  obtain ⟨k, hk⟩ : ∃ k, k = outK E := ⟨_, rfl⟩
  have hc0 : w.cell? ⟨p, 0, none⟩ = some (.int .i64 wi) := by rw [hwi]; exact I.blk.cell 0
  have hc1 : w.cell? ⟨p, 1, none⟩ = some (.int .u64 ky) := by rw [hky]; exact I.blk.cell 1
  have hc2 : w.cell? ⟨p, 2, none⟩ = some (.slice WA nw wc) := by rw [hnw]; exact I.blk.cell 2
  have hc3 : w.cell? ⟨p, 3, none⟩ = some (.int .i64 ac) := by rw [hac]; exact I.blk.cell 3
  have hc4 : w.cell? ⟨p, 4, none⟩ = some (.int .i64 dl) := by rw [hdl]; exact I.blk.cell 4
  have hc6 : w.cell? ⟨p, 6, none⟩ = some (.bool ow) := by rw [how]; exact I.blk.cell 6
  have hw1 : 1 ≤ wi := by rw [hwi]; exact ok.w0
  have hw2 : wi ≤ 16 := by rw [hwi]; exact ok.w1
  have k0 : 0 ≤ ky := by rw [hky]; exact ok.k0
  have k1 : ky ≤ 18446744073709551615 := by rw [hky]; exact ok.k1
  have a0 : 0 ≤ ac := by rw [hac]; exact ok.a0
  have a1 : ac + nw ≤ 1000000000 := by rw [hac, hnw]; exact ok.a1
  have d0' : 0 ≤ dl := by rw [hdl]; exact ok.d0
  have d1' : dl ≤ 1000000000 := by rw [hdl]; have := ok.d1; omega
  have n1 : nw ≤ 1000 := by rw [hnw]; exact ok.n1
  have hkn : k ≤ nw := by rw [hk, hnw]; exact Nat.min_le_left _ _
  have hk16 : k ≤ 16 := by rw [hk]; unfold outK; omega
  have hkm : (k : Int) = min (nw : Int) wi := by rw [hk]; unfold outK; rw [← hnw, ← hwi]; omega
  have hwc : nw ≤ wc ∧ wc ≤ 9223372036854775807 := by
    rcases I.row.2 with ⟨h1, h2⟩ | ⟨g, cap, cur, h1, _, _, h4, h5, _⟩
    · injection h1 with _ _ h3; subst h3; omega
    · injection h1 with _ _ h3; subst h3; simp only [maxLen] at h5; omega
  obtain ⟨hwc1, hwc2⟩ := hwc
  have HNW := Lib.hid hnw; have HKY := Lib.hid hky; have HAC := Lib.hid hac; have HDL := Lib.hid hdl; have HOW := Lib.hid how; have HKK := Lib.hid hk
  have HKM := Lib.hid hkm
  clear hml I ok hnw hwi hky hac hdl how hk hkm
  go_enter Try.func13, Try.ntmps13
  go_upto_region 2 with fail
  refine wp_region_flow 17 (by kernel_rfl) (by kernel_rfl) (fun a b => Ext a b) Ext.refl (fun h1 h2 => h1.next h2) (fun i v W => match i with
    | 0 => v = .pointer (some ⟨p, 0, none⟩)
    | 1 => v = .pointer (some ⟨p, 0, none⟩)
    | 2 => v = .pointer (some ⟨p, 2, none⟩)
    | 3 => v = .slice WA nw wc
    | 4 => v = .pointer (some ⟨p, 0, none⟩)
    | 5 => v = .pointer (some ⟨p, 0, none⟩)
    | 6 => v = .pointer (some ⟨p, 2, none⟩)
    | 7 => v = .slice WA nw wc
    | 8 => v = .int .i64 nw
    | 9 => v = .pointer (some ⟨p, 0, none⟩)
    | 10 => v = .pointer (some ⟨p, 0, none⟩)
    | 11 => v = .pointer (some ⟨p, 0, none⟩)
    | 12 => v = .int .i64 wi
    | 13 => v = .int .i64 k
    | 14 => v = .slice WA k wc
    | 15 => v = .int .i64 k
    | 16 => v = .int .i64 (0 : Int)
    | _ => True) ?_ ?_
  · simp only [List.take_succ_cons, List.take_zero, flowSteps]
    refine ⟨?_, ?_, ?_, ?_, ?_, ?_, ?_, ?_, ?_, ?_, ?_, ?_, ?_, ?_, ?_, ?_, ?_, trivial⟩
    · intro us W K hE hd hK
      simp only [flowAct, Nat.zero_add, Nat.reduceAdd, Act.put, List.setIfInBounds_toArray, List.set_cons_succ, List.set_cons_zero] at hK ⊢
      have HK := Lib.hid hK; have HE := Lib.hid hE
      clear hK hd hE
      go_wp2_with fail
      exact K_at (HK.out (.pointer (some ⟨p, 0, none⟩)) W (fun _ _ => rfl) (Ext.refl W)) (by kernel_rfl)
    · intro us W K hE hd hK
      have d0 := hd 0 (by kernel_rfl)
      simp only [flowAct, Nat.zero_add, Nat.reduceAdd, Act.put, List.setIfInBounds_toArray, List.set_cons_succ, List.set_cons_zero] at hK ⊢
      rw [d0] at hK ⊢
      have HK := Lib.hid hK; have HE := Lib.hid hE
      clear hK hd hE d0
      go_wp2_with fail
      exact K_at (HK.out (.pointer (some ⟨p, 0, none⟩)) W (fun _ _ => rfl) (Ext.refl W)) (by kernel_rfl)
    · intro us W K hE hd hK
      have d1 := hd 1 (by kernel_rfl)
      simp only [flowAct, Nat.zero_add, Nat.reduceAdd, Act.put, List.setIfInBounds_toArray, List.set_cons_succ, List.set_cons_zero] at hK ⊢
      rw [d1] at hK ⊢
      have HK := Lib.hid hK; have HE := Lib.hid hE
      clear hK hd hE d1
      go_wp2_with fail
      exact K_at (HK.out (.pointer (some ⟨p, 2, none⟩)) W (fun _ _ => rfl) (Ext.refl W)) (by kernel_rfl)
    · intro us W K hE hd hK
      have d2 := hd 2 (by kernel_rfl)
      have c0 := hE.cell (p := ⟨p, 2, none⟩) HPW.out
      rw [show (w.drew).cell? ⟨p, 2, none⟩ = some (.slice WA nw wc) from hc2] at c0
      simp only [flowAct, Nat.zero_add, Nat.reduceAdd, Act.put, List.setIfInBounds_toArray, List.set_cons_succ, List.set_cons_zero] at hK ⊢
      rw [d2] at hK ⊢
      have HK := Lib.hid hK; have HE := Lib.hid hE
      clear hK hd hE d2
      go_wp2_with fail
      exact K_at (HK.out (.slice WA nw wc) W (fun _ _ => rfl) (Ext.refl W)) (by kernel_rfl)
    · intro us W K hE hd hK
      simp only [flowAct, Nat.zero_add, Nat.reduceAdd, Act.put, List.setIfInBounds_toArray, List.set_cons_succ, List.set_cons_zero] at hK ⊢
      have HK := Lib.hid hK; have HE := Lib.hid hE
      clear hK hd hE
      go_wp2_with fail
      exact K_at (HK.out (.pointer (some ⟨p, 0, none⟩)) W (fun _ _ => rfl) (Ext.refl W)) (by kernel_rfl)
    · intro us W K hE hd hK
      have d4 := hd 4 (by kernel_rfl)
      simp only [flowAct, Nat.zero_add, Nat.reduceAdd, Act.put, List.setIfInBounds_toArray, List.set_cons_succ, List.set_cons_zero] at hK ⊢
      rw [d4] at hK ⊢
      have HK := Lib.hid hK; have HE := Lib.hid hE
      clear hK hd hE d4
      go_wp2_with fail
      exact K_at (HK.out (.pointer (some ⟨p, 0, none⟩)) W (fun _ _ => rfl) (Ext.refl W)) (by kernel_rfl)
    · intro us W K hE hd hK
      have d5 := hd 5 (by kernel_rfl)
      simp only [flowAct, Nat.zero_add, Nat.reduceAdd, Act.put, List.setIfInBounds_toArray, List.set_cons_succ, List.set_cons_zero] at hK ⊢
      rw [d5] at hK ⊢
      have HK := Lib.hid hK; have HE := Lib.hid hE
      clear hK hd hE d5
      go_wp2_with fail
      exact K_at (HK.out (.pointer (some ⟨p, 2, none⟩)) W (fun _ _ => rfl) (Ext.refl W)) (by kernel_rfl)
    · intro us W K hE hd hK
      have d6 := hd 6 (by kernel_rfl)
      have c0 := hE.cell (p := ⟨p, 2, none⟩) HPW.out
      rw [show (w.drew).cell? ⟨p, 2, none⟩ = some (.slice WA nw wc) from hc2] at c0
      simp only [flowAct, Nat.zero_add, Nat.reduceAdd, Act.put, List.setIfInBounds_toArray, List.set_cons_succ, List.set_cons_zero] at hK ⊢
      rw [d6] at hK ⊢
      have HK := Lib.hid hK; have HE := Lib.hid hE
      clear hK hd hE d6
      go_wp2_with fail
      exact K_at (HK.out (.slice WA nw wc) W (fun _ _ => rfl) (Ext.refl W)) (by kernel_rfl)
    · intro us W K hE hd hK
      have d7 := hd 7 (by kernel_rfl)
      simp only [flowAct, Nat.zero_add, Nat.reduceAdd, Act.put, List.setIfInBounds_toArray, List.set_cons_succ, List.set_cons_zero] at hK ⊢
      rw [d7] at hK ⊢
      have HK := Lib.hid hK; have HE := Lib.hid hE
      clear hK hd hE d7
      go_wp2_with fail
      exact K_at (HK.out (.int .i64 nw) W (fun _ _ => rfl) (Ext.refl W)) (by kernel_rfl)
    · intro us W K hE hd hK
      simp only [flowAct, Nat.zero_add, Nat.reduceAdd, Act.put, List.setIfInBounds_toArray, List.set_cons_succ, List.set_cons_zero] at hK ⊢
      have HK := Lib.hid hK; have HE := Lib.hid hE
      clear hK hd hE
      go_wp2_with fail
      exact K_at (HK.out (.pointer (some ⟨p, 0, none⟩)) W (fun _ _ => rfl) (Ext.refl W)) (by kernel_rfl)
    · intro us W K hE hd hK
      have d9 := hd 9 (by kernel_rfl)
      simp only [flowAct, Nat.zero_add, Nat.reduceAdd, Act.put, List.setIfInBounds_toArray, List.set_cons_succ, List.set_cons_zero] at hK ⊢
      rw [d9] at hK ⊢
      have HK := Lib.hid hK; have HE := Lib.hid hE
      clear hK hd hE d9
      go_wp2_with fail
      exact K_at (HK.out (.pointer (some ⟨p, 0, none⟩)) W (fun _ _ => rfl) (Ext.refl W)) (by kernel_rfl)
    · intro us W K hE hd hK
      have d10 := hd 10 (by kernel_rfl)
      simp only [flowAct, Nat.zero_add, Nat.reduceAdd, Act.put, List.setIfInBounds_toArray, List.set_cons_succ, List.set_cons_zero] at hK ⊢
      rw [d10] at hK ⊢
      have HK := Lib.hid hK; have HE := Lib.hid hE
      clear hK hd hE d10
      go_wp2_with fail
      exact K_at (HK.out (.pointer (some ⟨p, 0, none⟩)) W (fun _ _ => rfl) (Ext.refl W)) (by kernel_rfl)
    · intro us W K hE hd hK
      have d11 := hd 11 (by kernel_rfl)
      have c0 := hE.cell (p := ⟨p, 0, none⟩) HPW.out
      rw [show (w.drew).cell? ⟨p, 0, none⟩ = some (.int .i64 wi) from hc0] at c0
      simp only [flowAct, Nat.zero_add, Nat.reduceAdd, Act.put, List.setIfInBounds_toArray, List.set_cons_succ, List.set_cons_zero] at hK ⊢
      rw [d11] at hK ⊢
      have HK := Lib.hid hK; have HE := Lib.hid hE
      clear hK hd hE d11
      go_wp2_with fail
      exact K_at (HK.out (.int .i64 wi) W (fun _ _ => rfl) (Ext.refl W)) (by kernel_rfl)
    · intro us W K hE hd hK
      have d8 := hd 8 (by kernel_rfl)
      have d12 := hd 12 (by kernel_rfl)
      simp only [flowAct, Nat.zero_add, Nat.reduceAdd, Act.put, List.setIfInBounds_toArray, List.set_cons_succ, List.set_cons_zero] at hK ⊢
      rw [d8, d12] at hK ⊢
      have HK := Lib.hid hK; have HE := Lib.hid hE
      clear hK hd hE d8 d12
      go_wp2_with fail
      case inl =>
        have e : (k : Int) = wi := by have := HKM.out; omega
        rw [e] at HK
        exact K_at (HK.out (.int .i64 wi) W (fun _ _ => rfl) (Ext.refl W)) (by kernel_rfl)
      have e : (k : Int) = nw := by have := HKM.out; omega
      rw [e] at HK
      exact K_at (HK.out (.int .i64 nw) W (fun _ _ => rfl) (Ext.refl W)) (by kernel_rfl)
    · intro us W K hE hd hK
      have d3 := hd 3 (by kernel_rfl)
      have d13 := hd 13 (by kernel_rfl)
      simp only [flowAct, Nat.zero_add, Nat.reduceAdd, Act.put, List.setIfInBounds_toArray, List.set_cons_succ, List.set_cons_zero] at hK ⊢
      rw [d3, d13] at hK ⊢
      have HK := Lib.hid hK; have HE := Lib.hid hE
      clear hK hd hE d3 d13
      go_wp2_with fail
      exact K_at (HK.out (.slice WA k wc) W (fun _ _ => rfl) (Ext.refl W)) (by kernel_rfl)
    · intro us W K hE hd hK
      have d14 := hd 14 (by kernel_rfl)
      simp only [flowAct, Nat.zero_add, Nat.reduceAdd, Act.put, List.setIfInBounds_toArray, List.set_cons_succ, List.set_cons_zero] at hK ⊢
      rw [d14] at hK ⊢
      have HK := Lib.hid hK; have HE := Lib.hid hE
      clear hK hd hE d14
      go_wp2_with fail
      exact K_at (HK.out (.int .i64 k) W (fun _ _ => rfl) (Ext.refl W)) (by kernel_rfl)
    · intro us W K hE hd hK
      simp only [flowAct, Nat.zero_add, Nat.reduceAdd, Act.put, List.setIfInBounds_toArray, List.set_cons_succ, List.set_cons_zero] at hK ⊢
      have HK := Lib.hid hK; have HE := Lib.hid hE
      clear hK hd hE
      go_wp2_with fail
      exact K_at (HK.out (.int .i64 (0 : Int)) W (fun _ _ => rfl) (Ext.refl W)) (by kernel_rfl)
  · intro us W hE hd
    have d14 := hd 14 (by decide)
    have d15 := hd 15 (by decide)
    have d16 := hd 16 (by decide)
    simp only [List.take_succ_cons, List.take_zero, List.drop_succ_cons, List.drop_zero, flowAct, Nat.zero_add, Nat.reduceAdd, Act.put, List.setIfInBounds_toArray, List.set_cons_succ, List.set_cons_zero]
    rw [d14, d15, d16]
    have E2 : Hid (Ext w W) := Lib.hid ((Ext.refl w).drew.next hE)
    clear hE hd d14 d15 d16
    simp only [wpList, Exit.then, Act.put, List.setIfInBounds_toArray, List.set_cons_succ, List.set_cons_zero]
    go_wp2_with fail
    go_loopw [3, 22] (fun s3 s22 wr => ∃ (t : Nat) (OA : Option Addr) (oc : Nat) (ovs : List Value), t ≤ k ∧ s22 = .int .i64 t ∧ s3 = .slice OA t oc ∧ wr.ownsRow w.heap.size 33 1 (.slice OA t oc) t ovs ∧ Pks wr w.heap.size ovs (outTo E t) ∧ Ext w wr) (fun _ i _ => k - (intOf i).toNat)
    case atStart => exact ⟨0, none, 0, [], Nat.zero_le _, rfl, rfl, World.ownsRow_nil _ _ _ _, Pks.nil _ _, E2.out⟩
    case round =>
      obtain ⟨t, OA, oc, ovs, htk, rfl, rfl, ho, hpk, hEr⟩ := hrel
      have HO := Lib.hid ho; have HPK0 := Lib.hid hpk; have HEr := Lib.hid hEr
      clear ho hpk hEr
      by_cases hlt : t < k
      · have hIr := HI.out.ext HEr.out
        have hnt : t < E.waiting.length := by rw [← HNW.out]; omega
        obtain ⟨hbyt, hm64, mA, mc, hvm, hmc1, hmc2, him⟩ := hIr.msgs.2 t hnt
        obtain ⟨M, hM⟩ : ∃ M, M = E.waiting.getD t [] := ⟨_, rfl⟩
        rw [← hM] at hbyt hm64 hvm hmc1 him
        obtain ⟨gw, rfl, hcell⟩ : ∃ g, WA = some ⟨g, 0, none⟩ ∧ wr.cell? ⟨g, t, none⟩ = some (.slice mA M.length mc) := by
          rcases hIr.row.2 with ⟨h1, h2⟩ | ⟨g, cap, cur, h1, _⟩
          · omega
          · injection h1 with h1 _ h3
            refine ⟨g, h1, ?_⟩
            have hl : vs.length = E.waiting.length := hIr.msgs.1
            have := hIr.row.cells (g := g) (by rw [h1]; rfl) t (.slice mA M.length mc) (by rw [List.getElem?_eq_getElem (by omega)]; rw [List.getD_eq_getElem?_getD, List.getElem?_eq_getElem (by omega)] at hvm; exact congrArg some hvm)
            rw [add_at] at this
            exact this
        have HHM := Lib.hid hM; have HRM0 := Lib.hid him; have HBM := Lib.hid hbyt
        clear hIr hvm him hbyt hM hnt hmc1 hmc2
        have hbr := (HI.out.ext HEr.out).blk
        have HPWr := Lib.hid hbr.lt
        have hr1 : wr.cell? ⟨p, 1, none⟩ = some (.int .u64 ky) := by rw [HKY.out]; exact hbr.cell 1
        have hr3 : wr.cell? ⟨p, 3, none⟩ = some (.int .i64 ac) := by rw [HAC.out]; exact hbr.cell 3
        have hr4 : wr.cell? ⟨p, 4, none⟩ = some (.int .i64 dl) := by rw [HDL.out]; exact hbr.cell 4
        obtain ⟨PK, hPK⟩ : ∃ x, x = packL (ac + t + 1) dl M := ⟨_, rfl⟩
        have HPK : Hid (packL (ac + t + 1) dl M = PK) := Lib.hid hPK.symm
        have HPB : Hid (Byt PK) := Lib.hid (by rw [hPK]; exact packL_byt _ _ (by omega) (by omega) (by omega) (by omega) M (by omega))
        have HPL : Hid (PK.length ≤ 10000000000) := Lib.hid (by rw [hPK]; have := packL_le (ac + t + 1) dl (by omega) (by omega) (by omega) (by omega) M (by omega); omega)
        obtain ⟨SK, hSK⟩ : ∃ x, x = sealL ky PK := ⟨_, rfl⟩
        have HSK : Hid (sealL ky PK = SK) := Lib.hid hSK.symm
        have HPE : Hid (pktE E t = SK) := Lib.hid (by rw [hSK, hPK, HKY.out, HAC.out, HDL.out, HHM.out]; rfl)
        have HSL : Hid (0 < SK.length) := Lib.hid (by rw [hSK, sealL_length]; omega)
        have HRM : Hid (∀ W, Ext wr.drew W → Rd W W.heap.size mA M.length (u8s M)) := Lib.hid (fun W hW => HRM0.out.rd.ext' ((Ext.refl wr).drew.next hW))
        clear hPK hSK hbr
        go_upto_region 5 with fail
        refine wp_region_flow 21 (by kernel_rfl) (by kernel_rfl) (fun a b => Ext a b) Ext.refl (fun h1 h2 => h1.next h2) (fun i v W => match i with
          | 0 => v = .slice OA t oc
          | 1 => v = .pointer (some ⟨p, 0, none⟩)
          | 2 => v = .pointer (some ⟨p, 0, none⟩)
          | 3 => v = .pointer (some ⟨p, 1, none⟩)
          | 4 => v = .int .u64 ky
          | 5 => v = .pointer (some ⟨p, 0, none⟩)
          | 6 => v = .pointer (some ⟨p, 0, none⟩)
          | 7 => v = .pointer (some ⟨p, 3, none⟩)
          | 8 => v = .int .i64 ac
          | 9 => v = .int .i64 t
          | 10 => v = .int .i64 (ac + t)
          | 11 => v = .int .i64 (ac + t + 1)
          | 12 => v = .pointer (some ⟨p, 0, none⟩)
          | 13 => v = .pointer (some ⟨p, 0, none⟩)
          | 14 => v = .pointer (some ⟨p, 4, none⟩)
          | 15 => v = .int .i64 dl
          | 16 => v = .slice mA M.length mc
          | 17 => v = .agg #[.int .i64 (ac + t + 1), .int .i64 dl, .slice mA M.length mc]
          | 18 => ∃ A c, v = .slice A PK.length c ∧ W.ownsRow wr.heap.size 5 1 (.slice A PK.length c) PK.length (u8s PK)
          | 19 => ∃ A c, v = .slice A SK.length c ∧ W.ownsRow wr.heap.size 5 1 (.slice A SK.length c) SK.length (u8s SK)
          | 20 => ∃ A c g, v = .slice (some ⟨g, 0, none⟩) 1 1 ∧ W.ownsRow wr.heap.size 5 1 (.slice A SK.length c) SK.length (u8s SK) ∧ Blk W g 33 [.slice A SK.length c]
          | _ => True) ?_ ?_
        · simp only [List.take_succ_cons, List.take_zero, flowSteps]
          refine ⟨?_, ?_, ?_, ?_, ?_, ?_, ?_, ?_, ?_, ?_, ?_, ?_, ?_, ?_, ?_, ?_, ?_, ?_, ?_, ?_, ?_, trivial⟩
          · intro us W K hE hd hK
            simp only [flowAct, Nat.zero_add, Nat.reduceAdd, Act.put, List.setIfInBounds_toArray, List.set_cons_succ, List.set_cons_zero] at hK ⊢
            have HK := Lib.hid hK; have HE := Lib.hid hE
            clear hK hd hE
            go_wp2_with fail
            exact K_at (HK.out (.slice OA t oc) W (fun _ _ => rfl) (Ext.refl W)) (by kernel_rfl)
          · intro us W K hE hd hK
            simp only [flowAct, Nat.zero_add, Nat.reduceAdd, Act.put, List.setIfInBounds_toArray, List.set_cons_succ, List.set_cons_zero] at hK ⊢
            have HK := Lib.hid hK; have HE := Lib.hid hE
            clear hK hd hE
            go_wp2_with fail
            exact K_at (HK.out (.pointer (some ⟨p, 0, none⟩)) W (fun _ _ => rfl) (Ext.refl W)) (by kernel_rfl)
          · intro us W K hE hd hK
            have d1 := hd 1 (by kernel_rfl)
            simp only [flowAct, Nat.zero_add, Nat.reduceAdd, Act.put, List.setIfInBounds_toArray, List.set_cons_succ, List.set_cons_zero] at hK ⊢
            rw [d1] at hK ⊢
            have HK := Lib.hid hK; have HE := Lib.hid hE
            clear hK hd hE d1
            go_wp2_with fail
            exact K_at (HK.out (.pointer (some ⟨p, 0, none⟩)) W (fun _ _ => rfl) (Ext.refl W)) (by kernel_rfl)
          · intro us W K hE hd hK
            have d2 := hd 2 (by kernel_rfl)
            simp only [flowAct, Nat.zero_add, Nat.reduceAdd, Act.put, List.setIfInBounds_toArray, List.set_cons_succ, List.set_cons_zero] at hK ⊢
            rw [d2] at hK ⊢
            have HK := Lib.hid hK; have HE := Lib.hid hE
            clear hK hd hE d2
            go_wp2_with fail
            exact K_at (HK.out (.pointer (some ⟨p, 1, none⟩)) W (fun _ _ => rfl) (Ext.refl W)) (by kernel_rfl)
          · intro us W K hE hd hK
            have d3 := hd 3 (by kernel_rfl)
            have c0 := hE.cell (p := ⟨p, 1, none⟩) HPWr.out
            rw [show (wr.drew).cell? ⟨p, 1, none⟩ = some (.int .u64 ky) from hr1] at c0
            simp only [flowAct, Nat.zero_add, Nat.reduceAdd, Act.put, List.setIfInBounds_toArray, List.set_cons_succ, List.set_cons_zero] at hK ⊢
            rw [d3] at hK ⊢
            have HK := Lib.hid hK; have HE := Lib.hid hE
            clear hK hd hE d3
            go_wp2_with fail
            exact K_at (HK.out (.int .u64 ky) W (fun _ _ => rfl) (Ext.refl W)) (by kernel_rfl)
          · intro us W K hE hd hK
            simp only [flowAct, Nat.zero_add, Nat.reduceAdd, Act.put, List.setIfInBounds_toArray, List.set_cons_succ, List.set_cons_zero] at hK ⊢
            have HK := Lib.hid hK; have HE := Lib.hid hE
            clear hK hd hE
            go_wp2_with fail
            exact K_at (HK.out (.pointer (some ⟨p, 0, none⟩)) W (fun _ _ => rfl) (Ext.refl W)) (by kernel_rfl)
          · intro us W K hE hd hK
            have d5 := hd 5 (by kernel_rfl)
            simp only [flowAct, Nat.zero_add, Nat.reduceAdd, Act.put, List.setIfInBounds_toArray, List.set_cons_succ, List.set_cons_zero] at hK ⊢
            rw [d5] at hK ⊢
            have HK := Lib.hid hK; have HE := Lib.hid hE
            clear hK hd hE d5
            go_wp2_with fail
            exact K_at (HK.out (.pointer (some ⟨p, 0, none⟩)) W (fun _ _ => rfl) (Ext.refl W)) (by kernel_rfl)
          · intro us W K hE hd hK
            have d6 := hd 6 (by kernel_rfl)
            simp only [flowAct, Nat.zero_add, Nat.reduceAdd, Act.put, List.setIfInBounds_toArray, List.set_cons_succ, List.set_cons_zero] at hK ⊢
            rw [d6] at hK ⊢
            have HK := Lib.hid hK; have HE := Lib.hid hE
            clear hK hd hE d6
            go_wp2_with fail
            exact K_at (HK.out (.pointer (some ⟨p, 3, none⟩)) W (fun _ _ => rfl) (Ext.refl W)) (by kernel_rfl)
          · intro us W K hE hd hK
            have d7 := hd 7 (by kernel_rfl)
            have c0 := hE.cell (p := ⟨p, 3, none⟩) HPWr.out
            rw [show (wr.drew).cell? ⟨p, 3, none⟩ = some (.int .i64 ac) from hr3] at c0
            simp only [flowAct, Nat.zero_add, Nat.reduceAdd, Act.put, List.setIfInBounds_toArray, List.set_cons_succ, List.set_cons_zero] at hK ⊢
            rw [d7] at hK ⊢
            have HK := Lib.hid hK; have HE := Lib.hid hE
            clear hK hd hE d7
            go_wp2_with fail
            exact K_at (HK.out (.int .i64 ac) W (fun _ _ => rfl) (Ext.refl W)) (by kernel_rfl)
          · intro us W K hE hd hK
            simp only [flowAct, Nat.zero_add, Nat.reduceAdd, Act.put, List.setIfInBounds_toArray, List.set_cons_succ, List.set_cons_zero] at hK ⊢
            have HK := Lib.hid hK; have HE := Lib.hid hE
            clear hK hd hE
            go_wp2_with fail
            exact K_at (HK.out (.int .i64 t) W (fun _ _ => rfl) (Ext.refl W)) (by kernel_rfl)
          · intro us W K hE hd hK
            have d8 := hd 8 (by kernel_rfl)
            have d9 := hd 9 (by kernel_rfl)
            simp only [flowAct, Nat.zero_add, Nat.reduceAdd, Act.put, List.setIfInBounds_toArray, List.set_cons_succ, List.set_cons_zero] at hK ⊢
            rw [d8, d9] at hK ⊢
            have HK := Lib.hid hK; have HE := Lib.hid hE
            clear hK hd hE d8 d9
            go_wp2_with fail
            exact K_at (HK.out (.int .i64 (ac + t)) W (fun _ _ => rfl) (Ext.refl W)) (by kernel_rfl)
          · intro us W K hE hd hK
            have d10 := hd 10 (by kernel_rfl)
            simp only [flowAct, Nat.zero_add, Nat.reduceAdd, Act.put, List.setIfInBounds_toArray, List.set_cons_succ, List.set_cons_zero] at hK ⊢
            rw [d10] at hK ⊢
            have HK := Lib.hid hK; have HE := Lib.hid hE
            clear hK hd hE d10
            go_wp2_with fail
            exact K_at (HK.out (.int .i64 (ac + t + 1)) W (fun _ _ => rfl) (Ext.refl W)) (by kernel_rfl)
          · intro us W K hE hd hK
            simp only [flowAct, Nat.zero_add, Nat.reduceAdd, Act.put, List.setIfInBounds_toArray, List.set_cons_succ, List.set_cons_zero] at hK ⊢
            have HK := Lib.hid hK; have HE := Lib.hid hE
            clear hK hd hE
            go_wp2_with fail
            exact K_at (HK.out (.pointer (some ⟨p, 0, none⟩)) W (fun _ _ => rfl) (Ext.refl W)) (by kernel_rfl)
          · intro us W K hE hd hK
            have d12 := hd 12 (by kernel_rfl)
            simp only [flowAct, Nat.zero_add, Nat.reduceAdd, Act.put, List.setIfInBounds_toArray, List.set_cons_succ, List.set_cons_zero] at hK ⊢
            rw [d12] at hK ⊢
            have HK := Lib.hid hK; have HE := Lib.hid hE
            clear hK hd hE d12
            go_wp2_with fail
            exact K_at (HK.out (.pointer (some ⟨p, 0, none⟩)) W (fun _ _ => rfl) (Ext.refl W)) (by kernel_rfl)
          · intro us W K hE hd hK
            have d13 := hd 13 (by kernel_rfl)
            simp only [flowAct, Nat.zero_add, Nat.reduceAdd, Act.put, List.setIfInBounds_toArray, List.set_cons_succ, List.set_cons_zero] at hK ⊢
            rw [d13] at hK ⊢
            have HK := Lib.hid hK; have HE := Lib.hid hE
            clear hK hd hE d13
            go_wp2_with fail
            exact K_at (HK.out (.pointer (some ⟨p, 4, none⟩)) W (fun _ _ => rfl) (Ext.refl W)) (by kernel_rfl)
          · intro us W K hE hd hK
            have d14 := hd 14 (by kernel_rfl)
            have c0 := hE.cell (p := ⟨p, 4, none⟩) HPWr.out
            rw [show (wr.drew).cell? ⟨p, 4, none⟩ = some (.int .i64 dl) from hr4] at c0
            simp only [flowAct, Nat.zero_add, Nat.reduceAdd, Act.put, List.setIfInBounds_toArray, List.set_cons_succ, List.set_cons_zero] at hK ⊢
            rw [d14] at hK ⊢
            have HK := Lib.hid hK; have HE := Lib.hid hE
            clear hK hd hE d14
            go_wp2_with fail
            exact K_at (HK.out (.int .i64 dl) W (fun _ _ => rfl) (Ext.refl W)) (by kernel_rfl)
          · intro us W K hE hd hK
            simp only [flowAct, Nat.zero_add, Nat.reduceAdd, Act.put, List.setIfInBounds_toArray, List.set_cons_succ, List.set_cons_zero] at hK ⊢
            have HK := Lib.hid hK; have HE := Lib.hid hE
            clear hK hd hE
            go_wp2_with fail
            exact K_at (HK.out (.slice mA M.length mc) W (fun _ _ => rfl) (Ext.refl W)) (by kernel_rfl)
          · intro us W K hE hd hK
            have d11 := hd 11 (by kernel_rfl)
            have d15 := hd 15 (by kernel_rfl)
            have d16 := hd 16 (by kernel_rfl)
            simp only [flowAct, Nat.zero_add, Nat.reduceAdd, Act.put, List.setIfInBounds_toArray, List.set_cons_succ, List.set_cons_zero] at hK ⊢
            rw [d11, d15, d16] at hK ⊢
            have HK := Lib.hid hK; have HE := Lib.hid hE
            clear hK hd hE d11 d15 d16
            go_wp2_with fail
            exact K_at (HK.out (.agg #[.int .i64 (ac + t + 1), .int .i64 dl, .slice mA M.length mc]) W (fun _ _ => rfl) (Ext.refl W)) (by kernel_rfl)
          · intro us W K hE hd hK
            have d17 := hd 17 (by kernel_rfl)
            simp only [flowAct, Nat.zero_add, Nat.reduceAdd, Act.put, List.setIfInBounds_toArray, List.set_cons_succ, List.set_cons_zero] at hK ⊢
            rw [d17] at hK ⊢
            have HK := Lib.hid hK; have HE := Lib.hid hE
            clear hK hd hE d17
            go_wp2_with (go_at_call 33; (with_reducible refine (pbytes_any (ac + t + 1) dl (by omega) (by omega) (by omega) (by omega) M mA M.length mc W (HRM.out W HE.out) HBM.out (by omega)).mono ?_); rintro e w7 ⟨⟨A7, c7, rfl, ho7⟩, hB7⟩; rw [HPK.out] at ho7 ⊢)
            exact K_at (HK.out (.slice A7 PK.length c7) w7 (fun W2 h2 => ⟨A7, c7, rfl, own_ext h2 (own_mono ho7 HE.out.size)⟩) hB7) (by kernel_rfl)
          · intro us W K hE hd hK
            have d4 := hd 4 (by kernel_rfl)
            obtain ⟨A7, c7, d18, o7⟩ := hd 18 (by kernel_rfl)
            have HR7 := Lib.hid (own_rd o7)
            simp only [flowAct, Nat.zero_add, Nat.reduceAdd, Act.put, List.setIfInBounds_toArray, List.set_cons_succ, List.set_cons_zero] at hK ⊢
            rw [d4, d18] at hK ⊢
            have HK := Lib.hid hK; have HE := Lib.hid hE
            clear hK hd hE d4 d18 o7
            go_wp2_with (go_at_call 24; (with_reducible refine (lseal_any ky k0 k1 PK A7 PK.length c7 W HR7.out HPB.out HPL.out).mono ?_); rintro e w8 ⟨⟨A8, c8, rfl, ho8⟩, hB8⟩; rw [HSK.out] at ho8 ⊢)
            exact K_at (HK.out (.slice A8 SK.length c8) w8 (fun W2 h2 => ⟨A8, c8, rfl, own_ext h2 (own_mono ho8 HE.out.size)⟩) hB8) (by kernel_rfl)
          · intro us W K hE hd hK
            obtain ⟨A8, c8, d19, o8⟩ := hd 19 (by kernel_rfl)
            simp only [flowAct, Nat.zero_add, Nat.reduceAdd, Act.put, List.setIfInBounds_toArray, List.set_cons_succ, List.set_cons_zero] at hK ⊢
            rw [d19] at hK ⊢
            have HK := Lib.hid hK; have HE := Lib.hid hE
            clear hK hd hE d19
            go_wp2_with fail
            exact K_at (HK.out (.slice (some ⟨W.heap.size, 0, none⟩) 1 1) (W.alloc (.cells #[.slice A8 SK.length c8] 33)) (fun W2 h2 => ⟨A8, c8, _, rfl, own_ext (((Ext.refl W).alloc _).next h2) o8, (Blk.fresh W 33 [.slice A8 SK.length c8]).ext h2⟩) ((Ext.refl W).alloc _)) (by kernel_rfl)
        · intro us W hE hd
          obtain ⟨A8, c8, g8, d20, ho8, hb8⟩ := hd 20 (by decide)
          have e0 := hd 0 (by decide)
          simp only [List.take_succ_cons, List.take_zero, List.drop_succ_cons, List.drop_zero, flowAct, Nat.zero_add, Nat.reduceAdd, Act.put, List.setIfInBounds_toArray, List.set_cons_succ, List.set_cons_zero]
          rw [d20, e0]
          have E5 : Hid (Ext wr W) := Lib.hid ((Ext.refl wr).drew.next hE)
          have HB8 := Lib.hid hb8
          have HO8 := Lib.hid ho8
          clear hE hd d20 e0 hb8 ho8
          have HO5 : Hid (W.ownsRow w.heap.size 33 1 (.slice OA t oc) t ovs) := Lib.hid (own_ext E5.out HO.out)
          have hwW : w.heap.size ≤ W.heap.size := Nat.le_trans HEr.out.size E5.out.size
          go_wp2_with (at_builtin; refine wpList_append_own_at _ rfl (.tmp 27) (.tmp 47) 28 rfl w.heap.size 33 i0 (.slice none 0 0) 1 24 Try.underlying28 hi hz0 hz1 hz2 rfl (by omega) (.slice OA t oc) t ovs rfl HO5.out ⟨g8, 0, none⟩ 1 1 [.slice A8 SK.length c8] rfl rfl (blk_adds HB8.out) (by simp [Value.oneCell']) (by simp only [maxLen]; omega) (by omega) hwW ?_; intro v5 w5 ho5 hg5 hn5 hat5; obtain ⟨A5, c5, e5⟩ := own_slice ho5 (Nat.succ_pos _); subst e5; have HO5b := Lib.hid ho5; have HG5 := Lib.hid hg5; clear ho5 hg5 hn5 hat5)
          obtain ⟨q1, q2⟩ := out_round HPK0.out HEr.out E5.out HO8.out HSL.out HO5.out HG5.out
          refine ⟨⟨t + 1, A5, c5, _, by omega, by go_num, rfl, HO5b.out, by rw [outTo_succ, HPE.out]; exact q1, q2⟩, ?_⟩
          simp only [intOf]
          omega
      · obtain rfl : t = k := by omega
        have hbr := (HI.out.ext HEr.out).blk
        have HPWr := Lib.hid hbr.lt
        have hr1 : wr.cell? ⟨p, 1, none⟩ = some (.int .u64 ky) := by rw [HKY.out]; exact hbr.cell 1
        have hr4 : wr.cell? ⟨p, 4, none⟩ = some (.int .i64 dl) := by rw [HDL.out]; exact hbr.cell 4
        have hr6 : wr.cell? ⟨p, 6, none⟩ = some (.bool ow) := by rw [HOW.out]; exact hbr.cell 6
        have hf6 : wr.frozen? ⟨p, 6, none⟩ = false := hbr.frozen 6
        have hB6 : ∀ W w5 : World, Ext wr W → W.grownBy w5 (Value.slice OA t oc).ownBlock → Blk w5 p 65 (endC E (.slice WA E.waiting.length wc) hm) := fun W w5 hW hg => Kept.blk (F := fun b => (Value.slice OA t oc).ownBlock = some b) (Kept.of_grown hg (fun b hb _ => hb)) (hbr.ext hW) (fun hf => by have h1 := own_ge HO.out hf; have h2 := HI.out.blk.lt; omega)
        have C6 : Hid (∀ W w5 : World, Ext wr W → W.grownBy w5 (Value.slice OA t oc).ownBlock → w5.cell? ⟨p, 6, none⟩ = some (.bool ow)) := Lib.hid (fun W w5 hW hg => by rw [HOW.out]; exact (hB6 W w5 hW hg).cell 6)
        have F6 : Hid (∀ W w5 : World, Ext wr W → W.grownBy w5 (Value.slice OA t oc).ownBlock → w5.frozen? ⟨p, 6, none⟩ = false) := Lib.hid (fun W w5 hW hg => (hB6 W w5 hW hg).frozen 6)
        clear hbr hB6
        by_cases hq : t = 0 ∧ ow = true
        · obtain ⟨rfl, rfl⟩ := hq
          have HOL : Hid (outL E = [sealL ky (packL 0 dl [])]) := Lib.hid (by rw [outL, if_pos ⟨HKK.out.symm, HOW.out.symm⟩, HKY.out, HDL.out])
          obtain ⟨PK, hPK⟩ : ∃ x, x = packL 0 dl [] := ⟨_, rfl⟩
          have HPK : Hid (packL 0 dl [] = PK) := Lib.hid hPK.symm
          have HPB : Hid (Byt PK) := Lib.hid (by rw [hPK]; exact packL_byt _ _ (by omega) (by omega) (by omega) (by omega) [] (by simp))
          have HPL : Hid (PK.length ≤ 10000000000) := Lib.hid (by rw [hPK]; have := packL_le 0 dl (by omega) (by omega) (by omega) (by omega) [] (by simp); simp at this; omega)
          obtain ⟨SK, hSK⟩ : ∃ x, x = sealL ky PK := ⟨_, rfl⟩
          have HSK : Hid (sealL ky PK = SK) := Lib.hid hSK.symm
          have HSL : Hid (0 < SK.length) := Lib.hid (by rw [hSK, sealL_length]; omega)
          rw [hPK.symm, hSK.symm] at HOL
          clear hPK hSK
          go_upto_region 8 with fail
          refine wp_region_flow 13 (by kernel_rfl) (by kernel_rfl) (fun a b => Ext a b) Ext.refl (fun h1 h2 => h1.next h2) (fun i v W => match i with
            | 0 => v = .slice OA 0 oc
            | 1 => v = .pointer (some ⟨p, 0, none⟩)
            | 2 => v = .pointer (some ⟨p, 0, none⟩)
            | 3 => v = .pointer (some ⟨p, 1, none⟩)
            | 4 => v = .int .u64 ky
            | 5 => v = .pointer (some ⟨p, 0, none⟩)
            | 6 => v = .pointer (some ⟨p, 0, none⟩)
            | 7 => v = .pointer (some ⟨p, 4, none⟩)
            | 8 => v = .int .i64 dl
            | 9 => v = .agg #[.int .i64 (0 : Int), .int .i64 dl, .slice none 0 0]
            | 10 => ∃ A c, v = .slice A PK.length c ∧ W.ownsRow wr.heap.size 5 1 (.slice A PK.length c) PK.length (u8s PK)
            | 11 => ∃ A c, v = .slice A SK.length c ∧ W.ownsRow wr.heap.size 5 1 (.slice A SK.length c) SK.length (u8s SK)
            | 12 => ∃ A c g, v = .slice (some ⟨g, 0, none⟩) 1 1 ∧ W.ownsRow wr.heap.size 5 1 (.slice A SK.length c) SK.length (u8s SK) ∧ Blk W g 33 [.slice A SK.length c]
            | _ => True) ?_ ?_
          · simp only [List.take_succ_cons, List.take_zero, flowSteps]
            refine ⟨?_, ?_, ?_, ?_, ?_, ?_, ?_, ?_, ?_, ?_, ?_, ?_, ?_, trivial⟩
            · intro us W K hE hd hK
              simp only [flowAct, Nat.zero_add, Nat.reduceAdd, Act.put, List.setIfInBounds_toArray, List.set_cons_succ, List.set_cons_zero] at hK ⊢
              have HK := Lib.hid hK; have HE := Lib.hid hE
              clear hK hd hE
              go_wp2_with fail
              exact K_at (HK.out (.slice OA 0 oc) W (fun _ _ => rfl) (Ext.refl W)) (by kernel_rfl)
            · intro us W K hE hd hK
              simp only [flowAct, Nat.zero_add, Nat.reduceAdd, Act.put, List.setIfInBounds_toArray, List.set_cons_succ, List.set_cons_zero] at hK ⊢
              have HK := Lib.hid hK; have HE := Lib.hid hE
              clear hK hd hE
              go_wp2_with fail
              exact K_at (HK.out (.pointer (some ⟨p, 0, none⟩)) W (fun _ _ => rfl) (Ext.refl W)) (by kernel_rfl)
            · intro us W K hE hd hK
              have d1 := hd 1 (by kernel_rfl)
              simp only [flowAct, Nat.zero_add, Nat.reduceAdd, Act.put, List.setIfInBounds_toArray, List.set_cons_succ, List.set_cons_zero] at hK ⊢
              rw [d1] at hK ⊢
              have HK := Lib.hid hK; have HE := Lib.hid hE
              clear hK hd hE d1
              go_wp2_with fail
              exact K_at (HK.out (.pointer (some ⟨p, 0, none⟩)) W (fun _ _ => rfl) (Ext.refl W)) (by kernel_rfl)
            · intro us W K hE hd hK
              have d2 := hd 2 (by kernel_rfl)
              simp only [flowAct, Nat.zero_add, Nat.reduceAdd, Act.put, List.setIfInBounds_toArray, List.set_cons_succ, List.set_cons_zero] at hK ⊢
              rw [d2] at hK ⊢
              have HK := Lib.hid hK; have HE := Lib.hid hE
              clear hK hd hE d2
              go_wp2_with fail
              exact K_at (HK.out (.pointer (some ⟨p, 1, none⟩)) W (fun _ _ => rfl) (Ext.refl W)) (by kernel_rfl)
            · intro us W K hE hd hK
              have d3 := hd 3 (by kernel_rfl)
              have c0 := hE.cell (p := ⟨p, 1, none⟩) HPWr.out
              rw [show (wr.drew).cell? ⟨p, 1, none⟩ = some (.int .u64 ky) from hr1] at c0
              simp only [flowAct, Nat.zero_add, Nat.reduceAdd, Act.put, List.setIfInBounds_toArray, List.set_cons_succ, List.set_cons_zero] at hK ⊢
              rw [d3] at hK ⊢
              have HK := Lib.hid hK; have HE := Lib.hid hE
              clear hK hd hE d3
              go_wp2_with fail
              exact K_at (HK.out (.int .u64 ky) W (fun _ _ => rfl) (Ext.refl W)) (by kernel_rfl)
            · intro us W K hE hd hK
              simp only [flowAct, Nat.zero_add, Nat.reduceAdd, Act.put, List.setIfInBounds_toArray, List.set_cons_succ, List.set_cons_zero] at hK ⊢
              have HK := Lib.hid hK; have HE := Lib.hid hE
              clear hK hd hE
              go_wp2_with fail
              exact K_at (HK.out (.pointer (some ⟨p, 0, none⟩)) W (fun _ _ => rfl) (Ext.refl W)) (by kernel_rfl)
            · intro us W K hE hd hK
              have d5 := hd 5 (by kernel_rfl)
              simp only [flowAct, Nat.zero_add, Nat.reduceAdd, Act.put, List.setIfInBounds_toArray, List.set_cons_succ, List.set_cons_zero] at hK ⊢
              rw [d5] at hK ⊢
              have HK := Lib.hid hK; have HE := Lib.hid hE
              clear hK hd hE d5
              go_wp2_with fail
              exact K_at (HK.out (.pointer (some ⟨p, 0, none⟩)) W (fun _ _ => rfl) (Ext.refl W)) (by kernel_rfl)
            · intro us W K hE hd hK
              have d6 := hd 6 (by kernel_rfl)
              simp only [flowAct, Nat.zero_add, Nat.reduceAdd, Act.put, List.setIfInBounds_toArray, List.set_cons_succ, List.set_cons_zero] at hK ⊢
              rw [d6] at hK ⊢
              have HK := Lib.hid hK; have HE := Lib.hid hE
              clear hK hd hE d6
              go_wp2_with fail
              exact K_at (HK.out (.pointer (some ⟨p, 4, none⟩)) W (fun _ _ => rfl) (Ext.refl W)) (by kernel_rfl)
            · intro us W K hE hd hK
              have d7 := hd 7 (by kernel_rfl)
              have c0 := hE.cell (p := ⟨p, 4, none⟩) HPWr.out
              rw [show (wr.drew).cell? ⟨p, 4, none⟩ = some (.int .i64 dl) from hr4] at c0
              simp only [flowAct, Nat.zero_add, Nat.reduceAdd, Act.put, List.setIfInBounds_toArray, List.set_cons_succ, List.set_cons_zero] at hK ⊢
              rw [d7] at hK ⊢
              have HK := Lib.hid hK; have HE := Lib.hid hE
              clear hK hd hE d7
              go_wp2_with fail
              exact K_at (HK.out (.int .i64 dl) W (fun _ _ => rfl) (Ext.refl W)) (by kernel_rfl)
            · intro us W K hE hd hK
              have d8 := hd 8 (by kernel_rfl)
              simp only [flowAct, Nat.zero_add, Nat.reduceAdd, Act.put, List.setIfInBounds_toArray, List.set_cons_succ, List.set_cons_zero] at hK ⊢
              rw [d8] at hK ⊢
              have HK := Lib.hid hK; have HE := Lib.hid hE
              clear hK hd hE d8
              go_wp2_with fail
              exact K_at (HK.out (.agg #[.int .i64 (0 : Int), .int .i64 dl, .slice none 0 0]) W (fun _ _ => rfl) (Ext.refl W)) (by kernel_rfl)
            · intro us W K hE hd hK
              have d9 := hd 9 (by kernel_rfl)
              simp only [flowAct, Nat.zero_add, Nat.reduceAdd, Act.put, List.setIfInBounds_toArray, List.set_cons_succ, List.set_cons_zero] at hK ⊢
              rw [d9] at hK ⊢
              have HK := Lib.hid hK; have HE := Lib.hid hE
              clear hK hd hE d9
              go_wp2_with (go_at_call 33; (with_reducible refine (pbytes_any 0 dl (by omega) (by omega) (by omega) (by omega) [] none 0 0 W (Rd.nil _ _ _) Byt.nil (by omega)).mono ?_); rintro e w7 ⟨⟨A7, c7, rfl, ho7⟩, hB7⟩; rw [HPK.out] at ho7 ⊢)
              exact K_at (HK.out (.slice A7 PK.length c7) w7 (fun W2 h2 => ⟨A7, c7, rfl, own_ext h2 (own_mono ho7 HE.out.size)⟩) hB7) (by kernel_rfl)
            · intro us W K hE hd hK
              have d4 := hd 4 (by kernel_rfl)
              obtain ⟨A7, c7, d10, o7⟩ := hd 10 (by kernel_rfl)
              have HR7 := Lib.hid (own_rd o7)
              simp only [flowAct, Nat.zero_add, Nat.reduceAdd, Act.put, List.setIfInBounds_toArray, List.set_cons_succ, List.set_cons_zero] at hK ⊢
              rw [d4, d10] at hK ⊢
              have HK := Lib.hid hK; have HE := Lib.hid hE
              clear hK hd hE d4 d10 o7
              go_wp2_with (go_at_call 24; (with_reducible refine (lseal_any ky k0 k1 PK A7 PK.length c7 W HR7.out HPB.out HPL.out).mono ?_); rintro e w8 ⟨⟨A8, c8, rfl, ho8⟩, hB8⟩; rw [HSK.out] at ho8 ⊢)
              exact K_at (HK.out (.slice A8 SK.length c8) w8 (fun W2 h2 => ⟨A8, c8, rfl, own_ext h2 (own_mono ho8 HE.out.size)⟩) hB8) (by kernel_rfl)
            · intro us W K hE hd hK
              obtain ⟨A8, c8, d11, o8⟩ := hd 11 (by kernel_rfl)
              simp only [flowAct, Nat.zero_add, Nat.reduceAdd, Act.put, List.setIfInBounds_toArray, List.set_cons_succ, List.set_cons_zero] at hK ⊢
              rw [d11] at hK ⊢
              have HK := Lib.hid hK; have HE := Lib.hid hE
              clear hK hd hE d11
              go_wp2_with fail
              exact K_at (HK.out (.slice (some ⟨W.heap.size, 0, none⟩) 1 1) (W.alloc (.cells #[.slice A8 SK.length c8] 33)) (fun W2 h2 => ⟨A8, c8, _, rfl, own_ext (((Ext.refl W).alloc _).next h2) o8, (Blk.fresh W 33 [.slice A8 SK.length c8]).ext h2⟩) ((Ext.refl W).alloc _)) (by kernel_rfl)
          · intro us W hE hd
            obtain ⟨A8, c8, g8, d12, ho8, hb8⟩ := hd 12 (by decide)
            have e0 := hd 0 (by decide)
            simp only [List.take_succ_cons, List.take_zero, List.drop_succ_cons, List.drop_zero, flowAct, Nat.zero_add, Nat.reduceAdd, Act.put, List.setIfInBounds_toArray, List.set_cons_succ, List.set_cons_zero]
            rw [d12, e0]
            have E5 : Hid (Ext wr W) := Lib.hid ((Ext.refl wr).drew.next hE)
            have HB8 := Lib.hid hb8
            have HO8 := Lib.hid ho8
            clear hE hd d12 e0 hb8 ho8
            have HO5 : Hid (W.ownsRow w.heap.size 33 1 (.slice OA 0 oc) 0 ovs) := Lib.hid (own_ext E5.out HO.out)
            have hwW : w.heap.size ≤ W.heap.size := Nat.le_trans HEr.out.size E5.out.size
            go_wp2_with (at_builtin; refine wpList_append_own_at _ rfl (.tmp 59) (.tmp 71) 28 rfl w.heap.size 33 i0 (.slice none 0 0) 1 24 Try.underlying28 hi hz0 hz1 hz2 rfl (by omega) (.slice OA 0 oc) 0 ovs rfl HO5.out ⟨g8, 0, none⟩ 1 1 [.slice A8 SK.length c8] rfl rfl (blk_adds HB8.out) (by simp [Value.oneCell']) (by simp only [maxLen]; omega) (by omega) hwW ?_; intro v5 w5 ho5 hg5 hn5 hat5; obtain ⟨A5, c5, e5⟩ := own_slice ho5 (Nat.succ_pos _); subst e5; have HO5b := Lib.hid ho5; have HG5 := Lib.hid hg5; have hr6b : w5.cell? ⟨p, 6, none⟩ = some (.bool true) := C6.out W w5 E5.out hg5; have hf6b : w5.frozen? ⟨p, 6, none⟩ = false := F6.out W w5 E5.out hg5; clear ho5 hg5 hn5 hat5)
            go_ret
            obtain ⟨q1, q2⟩ := out_round HPK0.out HEr.out E5.out HO8.out HSL.out HO5.out HG5.out
            have hz := out_plain HML.out HI.out q2 HO5b.out (by rw [show outTo E 0 ++ [SK] = [SK] from rfl] at q1; exact q1)
            rw [HOL.out]
            exact ⟨A5, c5, 1, _, rfl, rfl, hz⟩
        · have HOL : Hid (outL E = outTo E t) := Lib.hid (by rw [outL, if_neg (by rw [← HKK.out, ← HOW.out]; exact hq), ← HKK.out])
          rcases Nat.eq_zero_or_pos t with h0 | h0
          · subst h0
            have how : ow = false := by cases ow with | false => rfl | true => exact absurd ⟨rfl, rfl⟩ hq
            subst how
            go_wp2_with fail
            go_ret
            have hz := out_plain HML.out HI.out HEr.out HO.out HPK0.out
            rw [HOL.out]
            exact ⟨OA, oc, 0, rfl, outTo_length E 0, ovs, hz⟩
          · have ht0 : ¬ ((t : Int) = 0) := by omega
            go_wp2_with fail
            go_ret
            have hz := out_plain HML.out HI.out HEr.out HO.out HPK0.out
            rw [HOL.out]
            exact ⟨OA, oc, t, ovs, rfl, outTo_length E t, hz⟩
end Go.Proofs.Ytkgmoklifkojhaa
