/- link.Send. Conditions: numbers below a bound. -/
import Derived.Test.YtkgmoklifkojhaaLkEnd
import Derived.Test.YtkgmoklifkojhaaGF
import Derived.Maps.AppendAt
set_option linter.unusedSimpArgs false
set_option linter.unusedVariables false
namespace Go.Proofs.Ytkgmoklifkojhaa
open Go.RowKit
theorem own_ext {w w' : World} {b : Nat} {e : TypeId} {size : Nat} {v : Value} {n : Nat} {xs : List Value} (h : Ext w w') (ho : w.ownsRow b e size v n xs) : w'.ownsRow b e size v n xs :=
  (Kept.of_ext (F := fun _ => False) h).own ho (fun _ _ h => h)
theorem own_kept {F : Nat → Prop} {w w' : World} {b : Nat} {e : TypeId} {size : Nat} {v : Value} {n : Nat} {xs : List Value} (h : Kept F w w') (hF : ∀ k, F k → k < b) (ho : w.ownsRow b e size v n xs) : w'.ownsRow b e size v n xs := by
  refine h.own ho (fun k hk hf => ?_)
  have := hF k hf
  rcases ho.2 with ⟨h1, _⟩ | ⟨g, cap, cur, h1, h2, _⟩
  · rw [h1] at hk; cases hk
  · rw [h1] at hk
    have h3 : g = k := by simpa [Value.ownBlock] using hk
    omega
theorem grown_ext {w w' w'' : World} {r : Option Nat} (h : w.grownBy w' r) (hE : Ext w' w'') : w.grownBy w'' r :=
  ⟨hE.os.trans h.os, hE.tape.trans h.tape, hE.output.trans h.output, Nat.le_trans h.size hE.size, fun k hk hf => (hE.block k (Nat.lt_of_lt_of_le hk h.size)).trans (h.block k hk hf)⟩
theorem own_slice {w : World} {b : Nat} {e : TypeId} {size : Nat} {v : Value} {n : Nat} {xs : List Value} (ho : w.ownsRow b e size v n xs) (hn : 0 < n) : ∃ A c, v = .slice A n c := by
  rcases ho.2 with ⟨_, h2⟩ | ⟨g, cap, _, h1, _⟩
  · omega
  · exact ⟨_, _, h1⟩
theorem add_at (g j : Nat) : (⟨g, 0, none⟩ : Addr).add j = ⟨g, j, none⟩ := by cases j <;> simp [Addr.add]
theorem blk_adds {w : World} {g : Nat} {t : TypeId} {cs : List Value} (h : Blk w g t cs) : ∀ j u, cs[j]? = some u → w.cell? ((⟨g, 0, none⟩ : Addr).add j) = some u := fun j u hj => by
  rw [add_at, h.cell j, hj]
theorem u8_bytes : (Try.prog.info? 33).map (fun i => (i.zero, i.size, i.bytes)) = some (some (.slice none 0 0), 1, 24) := by kernel_rfl
/-- Bytes in a new block are a message. -/
theorem own_msg {Mu : Nat → Prop} {w : World} {base : Nat} {A : Option Addr} {n c : Nat} {m : List Int} (ho : w.ownsRow base 5 1 (.slice A n c) n (u8s m)) (hm : Byt m) (hn : m.length = n) (h64 : n ≤ 65536) (hMu : ∀ b, base ≤ b → ¬ Mu b) : Msg Mu w (.slice A n c) m := by
  subst hn
  refine ⟨hm, h64, A, c, rfl, ?_⟩
  rcases ho.2 with ⟨h1, h2⟩ | ⟨g, cap, cur, h1, h2, h3, h4, h5, h6, h7⟩
  · injection h1 with h1 h3 h4
    subst h1; subst h4
    exact ⟨by omega, by omega, by simp [u8s], fun h => by omega⟩
  · injection h1 with h1 h3' h4'
    subst h1; subst h4'
    refine ⟨h4, by simp only [maxLen] at h5; omega, by simp [u8s], fun _ => ⟨g, 0, rfl, (Array.getElem?_eq_some_iff.1 h3).1, hMu g h2, fun j u hu => ?_⟩⟩
    have := ho.cells (g := g) (by rfl) j u hu
    have e : (⟨g, 0, none⟩ : Addr).add j = ⟨g, j, none⟩ := by cases j <;> simp [Addr.add]
    rw [e] at this
    rw [Nat.zero_add]
    exact this
theorem IsEnd.ext {Mu Ft : Nat → Prop} {w w' : World} {p : Nat} {E : EndS} {WA : Option Addr} {wc hm : Nat} {vs : List Value} {h : Int → Option Value} (I : IsEnd Mu Ft w p E WA wc hm vs h) (hE : Ext w w') : IsEnd Mu Ft w' p E WA wc hm vs h := by
  have hk : Kept (fun _ => False) w w' := Kept.of_ext hE
  exact ⟨I.blk.ext hE, own_ext hE I.row, I.msgs.keep hk (fun _ h => h.elim) (fun _ _ h => h), I.map.kept hk id, fun i hi => (I.held i hi).keep hk (fun _ h => h.elim) (fun _ _ h => h), I.fp, I.fh, I.fr, I.fm, fun b hb => Nat.lt_of_lt_of_le (I.fl b hb) hE.size, I.ok⟩
def sendE (E : EndS) (m : List Int) : EndS := { E with waiting := E.waiting ++ [m] }
theorem send_plain {Mu Ft : Nat → Prop} {w w8 : World} {p : Nat} {E : EndS} {WA : Option Addr} {wc hm : Nat} {vs : List Value} {h : Int → Option Value} (I : IsEnd Mu Ft w p E WA wc hm vs h) {v v8 : Value} {m : List Int} (hv : Msg Mu w v m)
    (ho : w8.ownsRow 0 33 1 v8 (E.waiting.length + 1) (vs ++ [v])) (hg : w.grownBy w8 (Value.slice WA E.waiting.length wc).ownBlock) (hat : v8.ownBlock = (Value.slice WA E.waiting.length wc).ownBlock ∨ v8.ownBlock = some w.heap.size)
    (hml : ∀ b, Mu b → b < w.heap.size) (h10 : E.waiting.length < 1000) (hk9 : E.acked + E.waiting.length < 1000000000) :
    ∃ Ft' : Nat → Prop, Turn Ft Ft' w (w8.setCell ⟨p, 2, none⟩ v8) ∧ (∀ b, Ft' b → b < (w8.setCell ⟨p, 2, none⟩ v8).heap.size) ∧ EndAt (mor Mu Ft') Ft' (w8.setCell ⟨p, 2, none⟩ v8) p (sendE E m) := by
  have hpw : p < w.heap.size := I.blk.lt
  have hmw : hm < w.heap.size := I.map.lt
  have hpm : hm ≠ p := I.map.ne_blk I.blk
  have hk8 : Kept Ft w w8 := Kept.of_grown hg (fun b hb _ => (I.fr b hb).1)
  have hk1 : Kept Ft w8 (w8.setCell ⟨p, 2, none⟩ v8) := Kept.setCell (p := ⟨p, 2, none⟩) w8 I.fp v8
  have hk : Kept Ft w (w8.setCell ⟨p, 2, none⟩ v8) := hk8.trans hk1
  have hp8 : Blk w8 p 65 (endC E (.slice WA E.waiting.length wc) hm) := by
    refine Kept.blk (F := fun b => (Value.slice WA E.waiting.length wc).ownBlock = some b) (Kept.of_grown hg (fun b hb _ => hb)) I.blk (fun hf => (I.fr p hf).2 rfl)
  obtain ⟨A8, c8, rfl⟩ : ∃ A c, v8 = .slice A (E.waiting.length + 1) c := by
    rcases ho.2 with ⟨_, h2⟩ | ⟨g, cap, _, h1, _⟩
    · omega
    · exact ⟨_, _, h1⟩
  have hrow : ∀ b, (Value.slice A8 (E.waiting.length + 1) c8).ownBlock = some b → (Ft b ∨ b = w.heap.size) ∧ b ≠ p ∧ b < w8.heap.size := by
    intro b hb
    refine ⟨?_, ?_, ?_⟩
    · rcases hat with h | h
      · rw [h] at hb; exact Or.inl (I.fr b hb).1
      · rw [h] at hb; injection hb with hb; exact Or.inr hb.symm
    · rcases hat with h | h
      · rw [h] at hb; exact (I.fr b hb).2
      · rw [h] at hb; injection hb with hb; omega
    · rcases ho.2 with ⟨h1, _⟩ | ⟨g, cap, cur, h1, _, h3, _⟩
      · rw [h1] at hb; cases hb
      · rw [h1] at hb; injection hb with hb; rw [← hb]; exact (Array.getElem?_eq_some_iff.1 h3).1
  have hold : ∀ b, b < w.heap.size → (b = p ∨ b = hm ∨ (Value.slice A8 (E.waiting.length + 1) c8).ownBlock = some b) → Ft b := by
    rintro b hb (rfl | rfl | h)
    · exact I.fp
    · exact I.fh
    · exact ((hrow b h).1).resolve_right (by omega)
  have hs9 : (w8.setCell ⟨p, 2, none⟩ (.slice A8 (E.waiting.length + 1) c8)).heap.size = w8.heap.size := by simp [World.setCell]
  have hl : ∀ b, (b = p ∨ b = hm ∨ (Value.slice A8 (E.waiting.length + 1) c8).ownBlock = some b) → b < (w8.setCell ⟨p, 2, none⟩ (.slice A8 (E.waiting.length + 1) c8)).heap.size := by
    intro b hb
    have := hk8.size
    rw [hs9]
    rcases hb with rfl | rfl | h
    · omega
    · omega
    · exact (hrow b h).2.2
  have hMo : ∀ b, b < w.heap.size → mor Mu (fun b => b = p ∨ b = hm ∨ (Value.slice A8 (E.waiting.length + 1) c8).ownBlock = some b) b → Mu b := fun b hb h => h.elim id (fun h => I.fm b (hold b hb h))
  refine ⟨fun b => b = p ∨ b = hm ∨ (Value.slice A8 (E.waiting.length + 1) c8).ownBlock = some b, ⟨hk, hold⟩, hl, ?_, A8, c8, hm, vs ++ [v], h, ?_, ?_, ?_, ?_, ?_, Or.inl rfl, Or.inr (Or.inl rfl), ?_, fun b hb => Or.inr hb, hl, ?_⟩
  · intro b hb
    rcases hb with hb | hb
    · have := hml b hb; have := hk.size; omega
    · exact hl b hb
  · have := hp8.set 2 (.slice A8 (E.waiting.length + 1) c8)
    simpa [endC, sendE] using this
  · simp only [sendE, List.length_append, List.length_cons, List.length_nil]
    exact Kept.own (F := fun b => b = p) (Kept.setCell (F := fun b => b = p) (p := ⟨p, 2, none⟩) w8 rfl _) ho (fun b hb hf => (hrow b hb).2.1 hf)
  · exact (I.msgs.snoc hv).keep hk I.fm hMo
  · refine HeldMap.kept (F := fun b => (Value.slice WA E.waiting.length wc).ownBlock = some b ∨ b = p) I.map ((Kept.of_grown hg (fun b hb _ => Or.inl hb)).trans (Kept.setCell (p := ⟨p, 2, none⟩) w8 (Or.inr rfl) _)) ?_
    rintro (h | h)
    · rcases I.row.2 with ⟨h1, _⟩ | ⟨g, cap, cur, h1, _, h3, _⟩
      · rw [h1] at h; cases h
      · rw [h1] at h
        injection h with h
        subst h
        exact I.map.ne_blk (g := g) (t := 33) (cs := cur.toList) (by unfold Blk; rw [Array.toArray_toList]; exact h3) rfl
    · exact hpm h
  · exact fun i hi => (I.held i hi).keep hk I.fm hMo
  · simp only [sendE, List.length_append, List.length_cons, List.length_nil]
    exact fun b hb => ⟨Or.inr (Or.inr hb), (hrow b hb).2.1⟩
  · obtain ⟨o1, o2, o3, o4, o5, o6, o7, o8, o9, o10, o11, o12⟩ := I.ok
    constructor <;> simp [sendE] <;> omega
set_option maxHeartbeats 1000000 in
set_option maxRecDepth 100000 in
theorem send_full (Mu Ft : Nat → Prop) (p : Nat) (E : EndS) (A : Option Addr) (n c : Nat) (w : World) (hE : EndAt Mu Ft w p E) (hn : n ≤ 1000000000000) (hf : 65536 < n ∨ 1000 ≤ E.waiting.length) :
    Calls Try.prog 11 #[.pointer (some ⟨p, 0, none⟩), .slice A n c] w fun e w' => e = .returned (.int .i64 4) ∧ w' = w := by
  obtain ⟨_, WA, wc, hm, vs, h, I⟩ := hE
  obtain ⟨nw, hnw⟩ : ∃ k, k = E.waiting.length := ⟨_, rfl⟩
  have hnw2 : nw ≤ 1000 := hnw ▸ I.ok.n1
  have hc2 : w.cell? ⟨p, 2, none⟩ = some (.slice WA nw wc) := by rw [hnw]; exact I.blk.cell 2
  rw [← hnw] at hf
  clear I hnw
  by_cases h1 : (65536 : Int) < n
  · go_enter Try.func11, Try.ntmps11
    go_wp2_with fail
    go_ret
    exact ⟨rfl, rfl⟩
  · have h2 : (1000 : Int) ≤ nw := by omega
    go_enter Try.func11, Try.ntmps11
    go_wp2_with fail
    go_ret
    exact ⟨rfl, rfl⟩
set_option maxHeartbeats 4000000 in
set_option maxRecDepth 100000 in
theorem send_ok (Mu Ft : Nat → Prop) (p : Nat) (E : EndS) (m : List Int) (A : Option Addr) (n c : Nat) (w : World) (hE : EndAt Mu Ft w p E) (hl : Rd w w.heap.size A n (u8s m)) (hby : Byt m) (hn : n ≤ 65536) (h10 : E.waiting.length < 1000) (hk : E.acked + E.waiting.length < 1000000000) :
    Calls Try.prog 11 #[.pointer (some ⟨p, 0, none⟩), .slice A n c] w fun e w' => e = .returned (.int .i64 0) ∧ ∃ Ft', Turn Ft Ft' w w' ∧ (∀ b, Ft' b → b < w'.heap.size) ∧ EndAt (mor Mu Ft') Ft' w' p (sendE E m) := by
  obtain ⟨hml, WA, wc, hm, vs, h, I'⟩ := hE
  have HML := Lib.hid hml
  clear hml
  have I := Lib.hid I'
  obtain ⟨i0, hi, hz0, hz1, hz2⟩ := info_parts u8_bytes
  have HLEN : Hid (m.length = n) := Lib.hid (by simpa [u8s] using hl.1)
  have HL := Lib.hid hl; have HBY := Lib.hid hby; have HPW := Lib.hid I'.blk.lt
  obtain ⟨nw, hnw⟩ : ∃ k, k = E.waiting.length := ⟨_, rfl⟩
  rw [← hnw] at h10 hk
  have hc2 : w.cell? ⟨p, 2, none⟩ = some (.slice WA nw wc) := by rw [hnw]; exact I'.blk.cell 2
  have hB8 : ∀ W w8 : World, Ext w W → W.grownBy w8 (Value.slice WA nw wc).ownBlock → Blk w8 p 65 (endC E (.slice WA nw wc) hm) := fun W w8 hW hg => by
    refine Kept.blk (F := fun b => (Value.slice WA nw wc).ownBlock = some b) (Kept.of_grown hg (fun b hb _ => hb)) (by rw [hnw]; exact I'.blk.ext hW) (fun hf => ?_)
    rw [hnw] at hf
    exact (I'.fr p hf).2 rfl
  have CK : Hid (∀ W w8 : World, Ext w W → W.grownBy w8 (Value.slice WA nw wc).ownBlock → w8.cell? ⟨p, 2, none⟩ = some (.slice WA nw wc)) := Lib.hid (fun W w8 hW hg => (hB8 W w8 hW hg).cell 2)
  have CF : Hid (∀ W w8 : World, Ext w W → W.grownBy w8 (Value.slice WA nw wc).ownBlock → w8.frozen? ⟨p, 2, none⟩ = false) := Lib.hid (fun W w8 hW hg => (hB8 W w8 hW hg).frozen 2)
  have HNW := Lib.hid hnw
  obtain ⟨F, hF⟩ : ∃ F : Nat → Prop, F = fun b => (Value.slice WA nw wc).ownBlock = some b := ⟨_, rfl⟩
  have HFB : Hid (∀ b, (Value.slice WA nw wc).ownBlock = some b → F b) := Lib.hid (fun b hb => by rw [hF]; exact hb)
  have HFW : Hid (∀ b, F b → b < w.heap.size) := Lib.hid (fun b hb => by rw [hF] at hb; rw [hnw] at hb; exact I'.fl b (I'.fr b hb).1)
  have HFP : Hid (¬ F p) := Lib.hid (fun hb => by rw [hF] at hb; rw [hnw] at hb; exact (I'.fr p hb).2 rfl)
  have HFG : Hid (∀ W w8 : World, W.grownBy w8 (Value.slice WA nw wc).ownBlock → Kept F W w8) := Lib.hid (fun W w8 h => Kept.of_grown h (fun b hb _ => HFB.out b hb))
  have h1 : ¬ (65536 : Int) < n := by omega
  have h2 : ¬ (1000 : Int) ≤ nw := by omega
  clear I' hl hby hB8 hnw hF
  go_enter Try.func11, Try.ntmps11
  go_upto_region 3 with fail
  refine wp_region_flowT 9 8 _ (by kernel_rfl) (by kernel_rfl) rfl (Kept F) Ext Ext.refl Kept.of_ext (fun h1 h2 => h1.trans h2) (fun h1 h2 => h1.next h2) (fun i v W => match i with
    | 0 => v = .pointer (some ⟨p, 0, none⟩)
    | 1 => v = .pointer (some ⟨p, 0, none⟩)
    | 2 => v = .pointer (some ⟨p, 0, none⟩)
    | 3 => v = .pointer (some ⟨p, 2, none⟩)
    | 4 => v = .slice WA nw wc
    | 5 => v = .slice A n c
    | 6 => ∃ A6 c6, v = .slice A6 n c6 ∧ W.ownsRow w.heap.size 5 1 (.slice A6 n c6) n (u8s m)
    | 7 => ∃ A6 c6 g, v = .slice (some ⟨g, 0, none⟩) 1 1 ∧ W.ownsRow w.heap.size 5 1 (.slice A6 n c6) n (u8s m) ∧ Blk W g 33 [.slice A6 n c6] ∧ w.heap.size ≤ g
    | 8 => ∃ A6 c6 W7, Ext w W7 ∧ W7.ownsRow w.heap.size 5 1 (.slice A6 n c6) n (u8s m) ∧ W.ownsRow 0 33 1 v (nw + 1) (vs ++ [.slice A6 n c6]) ∧ W7.grownBy W (Value.ownBlock (.slice WA nw wc)) ∧ (v.ownBlock = Value.ownBlock (.slice WA nw wc) ∨ v.ownBlock = some W7.heap.size)
    | _ => True) ?_ ?_
  · simp only [List.take_succ_cons, List.take_zero, flowStepsT]
    refine ⟨?_, ?_, ?_, ?_, ?_, ?_, ?_, ?_, ?_, trivial⟩
    · intro us W K hE1 hE2 hd hK
      simp only [flowAct, Nat.zero_add, Nat.reduceAdd, Act.put, List.setIfInBounds_toArray, List.set_cons_succ, List.set_cons_zero, Nat.reduceBEq, cond_true, cond_false] at hK ⊢
      have HK := Lib.hid hK; have HE1 := Lib.hid hE1
      clear hK hd hE1 hE2
      go_wp2_with fail
      exact K_at (HK.out (.pointer (some ⟨p, 0, none⟩)) W (fun _ _ => rfl) (Ext.refl W)) (by kernel_rfl)
    · intro us W K hE1 hE2 hd hK
      simp only [flowAct, Nat.zero_add, Nat.reduceAdd, Act.put, List.setIfInBounds_toArray, List.set_cons_succ, List.set_cons_zero, Nat.reduceBEq, cond_true, cond_false] at hK ⊢
      have HK := Lib.hid hK; have HE1 := Lib.hid hE1
      clear hK hd hE1 hE2
      go_wp2_with fail
      exact K_at (HK.out (.pointer (some ⟨p, 0, none⟩)) W (fun _ _ => rfl) (Ext.refl W)) (by kernel_rfl)
    · intro us W K hE1 hE2 hd hK
      have d1 := hd 1 (by kernel_rfl)
      simp only [flowAct, Nat.zero_add, Nat.reduceAdd, Act.put, List.setIfInBounds_toArray, List.set_cons_succ, List.set_cons_zero, Nat.reduceBEq, cond_true, cond_false] at hK ⊢
      rw [d1] at hK ⊢
      have HK := Lib.hid hK; have HE1 := Lib.hid hE1
      clear hK hd hE1 hE2 d1
      go_wp2_with fail
      exact K_at (HK.out (.pointer (some ⟨p, 0, none⟩)) W (fun _ _ => rfl) (Ext.refl W)) (by kernel_rfl)
    · intro us W K hE1 hE2 hd hK
      have d2 := hd 2 (by kernel_rfl)
      simp only [flowAct, Nat.zero_add, Nat.reduceAdd, Act.put, List.setIfInBounds_toArray, List.set_cons_succ, List.set_cons_zero, Nat.reduceBEq, cond_true, cond_false] at hK ⊢
      rw [d2] at hK ⊢
      have HK := Lib.hid hK; have HE1 := Lib.hid hE1
      clear hK hd hE1 hE2 d2
      go_wp2_with fail
      exact K_at (HK.out (.pointer (some ⟨p, 2, none⟩)) W (fun _ _ => rfl) (Ext.refl W)) (by kernel_rfl)
    · intro us W K hE1 hE2 hd hK
      have d3 := hd 3 (by kernel_rfl)
      have c0 := hE1.cell (p := ⟨p, 2, none⟩) HPW.out HFP.out
      rw [show (w.drew).cell? ⟨p, 2, none⟩ = some (.slice WA nw wc) from hc2] at c0
      simp only [flowAct, Nat.zero_add, Nat.reduceAdd, Act.put, List.setIfInBounds_toArray, List.set_cons_succ, List.set_cons_zero, Nat.reduceBEq, cond_true, cond_false] at hK ⊢
      rw [d3] at hK ⊢
      have HK := Lib.hid hK; have HE1 := Lib.hid hE1
      clear hK hd hE1 hE2 d3
      go_wp2_with fail
      exact K_at (HK.out (.slice WA nw wc) W (fun _ _ => rfl) (Ext.refl W)) (by kernel_rfl)
    · intro us W K hE1 hE2 hd hK
      simp only [flowAct, Nat.zero_add, Nat.reduceAdd, Act.put, List.setIfInBounds_toArray, List.set_cons_succ, List.set_cons_zero, Nat.reduceBEq, cond_true, cond_false] at hK ⊢
      have HK := Lib.hid hK; have HE1 := Lib.hid hE1
      clear hK hd hE1 hE2
      go_wp2_with fail
      exact K_at (HK.out (.slice A n c) W (fun _ _ => rfl) (Ext.refl W)) (by kernel_rfl)
    · intro us W K hE1 hE2 hd hK
      have hE := hE2 (by kernel_rfl)
      have d5 := hd 5 (by kernel_rfl)
      simp only [flowAct, Nat.zero_add, Nat.reduceAdd, Act.put, List.setIfInBounds_toArray, List.set_cons_succ, List.set_cons_zero, Nat.reduceBEq, cond_true, cond_false] at hK ⊢
      rw [d5] at hK ⊢
      have HK := Lib.hid hK; have HE1 := Lib.hid hE1
      have HE := Lib.hid hE
      clear hE
      clear hK hd hE1 hE2 d5
      go_wp2_with (go_at_call 32; (with_reducible refine (clone_any m A n c W (HL.out.ext' (show Ext w W from (Ext.refl w).drew.next HE.out)) (by omega)).mono ?_); rintro e w6 ⟨⟨A6, c6, rfl, ho6⟩, hB6⟩)
      exact K_at (HK.out (.slice A6 n c6) w6 (fun W2 h2 => ⟨A6, c6, rfl, own_kept h2 HFW.out (own_mono ho6 HE.out.size)⟩) hB6) (by kernel_rfl)
    · intro us W K hE1 hE2 hd hK
      have hE := hE2 (by kernel_rfl)
      obtain ⟨A6, c6, d6, o6⟩ := hd 6 (by kernel_rfl)
      simp only [flowAct, Nat.zero_add, Nat.reduceAdd, Act.put, List.setIfInBounds_toArray, List.set_cons_succ, List.set_cons_zero, Nat.reduceBEq, cond_true, cond_false] at hK ⊢
      rw [d6] at hK ⊢
      have HK := Lib.hid hK; have HE1 := Lib.hid hE1
      have HE := Lib.hid hE
      clear hE
      clear hK hd hE1 hE2 d6
      go_wp2_with fail
      exact K_at (HK.out (.slice (some ⟨W.heap.size, 0, none⟩) 1 1) (W.alloc (.cells #[.slice A6 n c6] 33)) (fun W2 h2 => ⟨A6, c6, _, rfl, own_kept h2 HFW.out (own_ext ((Ext.refl W).alloc _) o6), h2.blk (Blk.fresh W 33 [.slice A6 n c6]) (fun hf => Nat.lt_irrefl _ (Nat.lt_of_lt_of_le (HFW.out _ hf) HE.out.size)), HE.out.size⟩) ((Ext.refl W).alloc _)) (by kernel_rfl)
    · intro us W K hE1 hE2 hd hK
      have hE := hE2 (by kernel_rfl)
      have d4 := hd 4 (by kernel_rfl)
      obtain ⟨A7, c7, g7, d7, ho7, hb7, hg7⟩ := hd 7 (by kernel_rfl)
      have E5 : Hid (Ext w W) := Lib.hid ((Ext.refl w).drew.next hE)
      have HR : Hid (W.ownsRow 0 33 1 (.slice WA nw wc) nw vs) := Lib.hid (by rw [HNW.out]; exact own_ext E5.out I.out.row)
      have HO7 := Lib.hid ho7; have HB7 := Lib.hid hb7
      simp only [flowAct, Nat.zero_add, Nat.reduceAdd, Act.put, List.setIfInBounds_toArray, List.set_cons_succ, List.set_cons_zero, Nat.reduceBEq, cond_true, cond_false] at hK ⊢
      rw [d4, d7] at hK ⊢
      have HK := Lib.hid hK; have HE1 := Lib.hid hE1
      have HE := Lib.hid hE
      clear hE
      clear hK hd hE1 hE2 d4 d7 ho7 hb7
      go_wp2_with (at_builtin; refine wpList_append_own_at _ rfl (.tmp 20) (.tmp 23) 28 rfl 0 33 i0 (.slice none 0 0) 1 24 Try.underlying28 hi hz0 hz1 hz2 rfl (by omega) (.slice WA nw wc) nw vs rfl HR.out ⟨g7, 0, none⟩ 1 1 [.slice A7 n c7] rfl rfl (blk_adds HB7.out) (by simp [Value.oneCell']) (by simp only [maxLen]; omega) (by omega) (Nat.zero_le _) ?_; intro v8 w8 ho8 hg8 hn8 hat8)
      exact K_at (HK.out (v8) w8 (fun W2 h2 => ⟨A7, c7, W, E5.out, HO7.out, own_ext h2 ho8, grown_ext hg8 h2, hat8⟩) (HFG.out _ _ hg8)) (by kernel_rfl)
  · intro us W hE1 hd
    obtain ⟨A7, c7, W7, h7E, ho7, ho8, hg8, hat8⟩ := hd 8 (by decide)
    have d0 := hd 0 (by decide)
    obtain ⟨A8, c8, d8⟩ := own_slice ho8 (Nat.succ_pos _)
    rw [d8] at ho8 hat8
    simp only [List.take_succ_cons, List.take_zero, List.drop_succ_cons, List.drop_zero, flowAct, Nat.zero_add, Nat.reduceAdd, Act.put, List.setIfInBounds_toArray, List.set_cons_succ, List.set_cons_zero]
    rw [d0, d8]
    have E5 := Lib.hid h7E
    have I5 := Lib.hid (I.out.ext E5.out)
    have HV := Lib.hid (own_msg (Mu := Mu) ho7 HBY.out HLEN.out hn (fun b hb hM => Nat.lt_irrefl _ (Nat.lt_of_lt_of_le (HML.out b hM) hb)))
    have hc8 : W.cell? ⟨p, 2, none⟩ = some (.slice WA nw wc) := CK.out W7 W E5.out hg8
    have hf8 : W.frozen? ⟨p, 2, none⟩ = false := CF.out W7 W E5.out hg8
    have HO8 := Lib.hid ho8; have HG8 := Lib.hid hg8; have HA8 := Lib.hid hat8
    clear ho8 hg8 hat8 ho7 h7E hE1 hd d0 d8
    go_wp2_with fail
    go_ret
    refine ⟨rfl, ?_⟩
    obtain ⟨Ft', h1, h2, h3⟩ := send_plain I5.out HV.out (by rw [← HNW.out]; exact HO8.out) (by rw [← HNW.out]; exact HG8.out) (by rw [← HNW.out]; exact HA8.out) (fun b hb => Nat.lt_of_lt_of_le (HML.out b hb) E5.out.size) (by rw [← HNW.out]; omega) (by rw [← HNW.out]; omega)
    exact ⟨Ft', ⟨(Kept.of_ext E5.out).trans h1.kept, fun b hb => h1.old b (Nat.lt_of_lt_of_le hb E5.out.size)⟩, h2, h3⟩
end Go.Proofs.Ytkgmoklifkojhaa
