/- The reference's End in memory; its Send and find. Conditions: numbers below a bound. -/
import Derived.Test.YtkgmoklifkojhaaLkSep
set_option linter.unusedSimpArgs false
set_option linter.unusedVariables false
namespace Go.Proofs.Ytkgmoklifkojhaa
open Go.RowKit
/-- What the reference's End holds, in plain lists. -/
structure RefS where
  win : Int
  key : Int
  sent : List (List Int)
  acked : Int
  got : Int
  held : List (Int × List Int)
  owing : Bool
  forged : Int
def refC (R : RefS) (SV HV : Value) : List Value := [.int .i64 R.win, .int .u64 R.key, SV, .int .i64 R.acked, .int .i64 R.got, HV, .bool R.owing, .int .i64 R.forged]
def heldC (hs : List (Int × Value)) : List Value := hs.flatMap fun x => [.int .i64 x.1, x.2]
theorem heldC_length (hs : List (Int × Value)) : (heldC hs).length = hs.length * 2 := by
  induction hs with
  | nil => rfl
  | cons x l ih => simp only [heldC, List.flatMap_cons, List.length_append, List.length_cons, List.length_nil] at ih ⊢; omega
theorem heldC_append (a b : List (Int × Value)) : heldC (a ++ b) = heldC a ++ heldC b := by simp [heldC]
theorem heldC_drop (hs : List (Int × Value)) (k : Nat) : (heldC hs).drop (k * 2) = heldC (hs.drop k) := by
  induction k generalizing hs with
  | zero => simp
  | succ k ih =>
    cases hs with
    | nil => simp [heldC]
    | cons x l =>
      rw [show (k + 1) * 2 = k * 2 + 2 by omega]
      simp only [List.drop_succ_cons]
      rw [← ih l]
      simp [heldC]
theorem heldC_take (hs : List (Int × Value)) (k : Nat) : (heldC hs).take (k * 2) = heldC (hs.take k) := by
  induction k generalizing hs with
  | zero => simp [heldC]
  | succ k ih =>
    cases hs with
    | nil => simp [heldC]
    | cons x l =>
      rw [show (k + 1) * 2 = k * 2 + 2 by omega]
      simp only [List.take_succ_cons]
      have := ih l
      simp only [heldC, List.flatMap_cons] at this ⊢
      simp only [List.cons_append, List.nil_append, List.take_succ_cons, this]
theorem heldC_at {hs : List (Int × Value)} {k : Nat} {x : Int × Value} (h : hs[k]? = some x) : (heldC hs)[k * 2]? = some (.int .i64 x.1) ∧ (heldC hs)[k * 2 + 1]? = some x.2 := by
  obtain ⟨hlt, he⟩ := List.getElem?_eq_some_iff.1 h
  have e : hs.drop k = x :: hs.drop (k + 1) := by rw [List.drop_eq_getElem_cons hlt, he]
  have h0 : ((heldC hs).drop (k * 2))[0]? = some (.int .i64 x.1) := by rw [heldC_drop, e]; rfl
  have h1 : ((heldC hs).drop (k * 2))[1]? = some x.2 := by rw [heldC_drop, e]; rfl
  rw [List.getElem?_drop] at h0 h1
  exact ⟨h0, h1⟩
theorem heldC_one {hs : List (Int × Value)} (h : ∀ x ∈ hs, x.2.oneCell' = true) : ∀ u ∈ heldC hs, u.oneCell' = true := fun u hu => by
  simp only [heldC, List.mem_flatMap, List.mem_cons, List.not_mem_nil, or_false] at hu
  obtain ⟨x, hx, rfl | rfl⟩ := hu
  · rfl
  · exact h x hx
/-- A bound for all numbers. -/
structure RefOk (R : RefS) : Prop where
  w0 : 1 ≤ R.win
  w1 : R.win ≤ 16
  k0 : 0 ≤ R.key
  k1 : R.key ≤ 18446744073709551615
  a0 : 0 ≤ R.acked
  a1 : R.acked ≤ R.sent.length
  s1 : R.sent.length ≤ 1000
  g0 : 0 ≤ R.got
  g1 : R.got + R.held.length ≤ 1000000000
  f0 : 0 ≤ R.forged
  f1 : R.forged ≤ 1000000000
  h1 : R.held.length ≤ 1000
  hk : ∀ x ∈ R.held, in64 x.1
/-- The blocks of an End. -/
def ftR (p : Nat) (SV HV : Value) : Nat → Prop := fun b => b = p ∨ SV.ownBlock = some b ∨ HV.ownBlock = some b
structure IsRef (Mu : Nat → Prop) (w : World) (p : Nat) (R : RefS) (SV HV : Value) (vs : List Value) (hs : List (Int × Value)) : Prop where
  blk : Blk w p 31 (refC R SV HV)
  row : w.ownsRow 0 33 1 SV R.sent.length vs
  msgs : Msgs Mu w vs R.sent
  hrow : w.ownsRow 0 78 2 HV R.held.length (heldC hs)
  hks : hs.map (·.1) = R.held.map (·.1)
  hms : Msgs Mu w (hs.map (·.2)) (R.held.map (·.2))
  ok : RefOk R
theorem row_blk_ne {w : World} {g : Nat} {t e : TypeId} {cs : List Value} {base size n : Nat} {v : Value} {xs : List Value} (hb : Blk w g t cs) (ho : w.ownsRow base e size v n xs) (he : e ≠ t) : v.ownBlock ≠ some g := fun h => by
  rcases ho.2 with ⟨h1, _⟩ | ⟨g', cap, cur, h1, _, h3, _⟩
  · rw [h1] at h; cases h
  · rw [h1] at h
    have e1 : g' = g := by simpa [Value.ownBlock] using h
    unfold Blk at hb
    rw [e1, hb] at h3
    injection h3 with h3; injection h3 with _ h3
    exact he h3.symm
theorem IsRef.np {Mu : Nat → Prop} {w : World} {p : Nat} {R : RefS} {SV HV : Value} {vs : List Value} {hs : List (Int × Value)} (I : IsRef Mu w p R SV HV vs hs) : SV.ownBlock ≠ some p ∧ HV.ownBlock ≠ some p ∧ ∀ b, SV.ownBlock = some b → HV.ownBlock ≠ some b :=
  ⟨row_blk_ne I.blk I.row (by decide), row_blk_ne I.blk I.hrow (by decide), fun b h1 h2 => own_tag I.row I.hrow (by decide) h1 h2⟩
theorem IsRef.lt {Mu : Nat → Prop} {w : World} {p : Nat} {R : RefS} {SV HV : Value} {vs : List Value} {hs : List (Int × Value)} (I : IsRef Mu w p R SV HV vs hs) : ∀ b, ftR p SV HV b → b < w.heap.size := by
  rintro b (rfl | h | h)
  · exact I.blk.lt
  · exact (I.row.lt b h).2
  · exact (I.hrow.lt b h).2
theorem IsRef.frame {Mu F : Nat → Prop} {w w' : World} {p : Nat} {R : RefS} {SV HV : Value} {vs : List Value} {hs : List (Int × Value)} (I : IsRef Mu w p R SV HV vs hs) (hk : Kept F w w') (hF : ∀ b, F b → Mu b) (hd : ∀ b, F b → ¬ ftR p SV HV b) : IsRef Mu w' p R SV HV vs hs :=
  ⟨hk.blk I.blk (fun hf => hd _ hf (Or.inl rfl)), hk.own I.row (fun b hb hf => hd _ hf (Or.inr (Or.inl hb))), I.msgs.keep hk hF (fun _ _ h => h), hk.own I.hrow (fun b hb hf => hd _ hf (Or.inr (Or.inr hb))), I.hks, I.hms.keep hk hF (fun _ _ h => h), I.ok⟩
theorem IsRef.ext {Mu : Nat → Prop} {w w' : World} {p : Nat} {R : RefS} {SV HV : Value} {vs : List Value} {hs : List (Int × Value)} (I : IsRef Mu w p R SV HV vs hs) (hE : Ext w w') : IsRef Mu w' p R SV HV vs hs :=
  I.frame (F := fun _ => False) (Kept.of_ext hE) (fun _ h => h.elim) (fun _ h => h.elim)
theorem Msgs.mu {Mu Mu' : Nat → Prop} {w : World} {vs : List Value} {ms : List (List Int)} (h : Msgs Mu w vs ms) (hM : ∀ b, b < w.heap.size → Mu' b → Mu b) : Msgs Mu' w vs ms := h.keep (Kept.refl (fun _ => False) w) (fun _ h => h.elim) hM
theorem IsRef.mu {Mu Mu' : Nat → Prop} {w : World} {p : Nat} {R : RefS} {SV HV : Value} {vs : List Value} {hs : List (Int × Value)} (I : IsRef Mu w p R SV HV vs hs) (hM : ∀ b, b < w.heap.size → Mu' b → Mu b) : IsRef Mu' w p R SV HV vs hs :=
  ⟨I.blk, I.row, I.msgs.mu hM, I.hrow, I.hks, I.hms.mu hM, I.ok⟩
/-- The reference's End, as an object. -/
def RefO (p : Nat) (R : RefS) : Obj := fun Mu Ft w => ∃ SV HV vs hs, IsRef Mu w p R SV HV vs hs ∧ ∀ b, ftR p SV HV b → Ft b
theorem RefO.ok (p : Nat) (R : RefS) : ObjOk (RefO p R) := fun Mu Mu' Ft F w w' h hk hF hd hM hM2 hl => by
  obtain ⟨SV, HV, vs, hs, I, hf⟩ := h
  have hk0 := hk
  refine ⟨SV, HV, vs, hs, ⟨hk.blk I.blk (fun h => hd _ h (hf _ (Or.inl rfl))), hk.own I.row (fun b hb h => hd _ h (hf _ (Or.inr (Or.inl hb)))), I.msgs.keep hk hF hM, hk.own I.hrow (fun b hb h => hd _ h (hf _ (Or.inr (Or.inr hb)))), I.hks, I.hms.keep hk hF hM, I.ok⟩, hf⟩
/-- All blocks that may be written, and all that have come since w. -/
def mnew (Mu : Nat → Prop) (w : World) : Nat → Prop := fun b => Mu b ∨ w.heap.size ≤ b
/-- What a method leaves. -/
theorem IsRef.turn {Mu Ft : Nat → Prop} {w w' : World} {p : Nat} {R : RefS} {SV HV : Value} {vs : List Value} {hs : List (Int × Value)} (I : IsRef (mnew Mu w) w' p R SV HV vs hs) (hk : Kept Ft w w') (hF : ∀ b, Ft b → Mu b) (hS : ∀ b, ftR p SV HV b → Ft b ∨ w.heap.size ≤ b)
    (hv : ∀ b, ftR p SV HV b → b < w'.heap.size) : Turn Ft (ftR p SV HV) w w' ∧ (∀ b, ftR p SV HV b → b < w'.heap.size) ∧ (∀ vs ms, Msgs (mnew Mu w) w' vs ms → Msgs (mnew Mu w) w' vs ms) ∧ RefO p R (fun b => Mu b ∨ (Ft b ∨ w.heap.size ≤ b) ∧ ftR p SV HV b) (ftR p SV HV) w' :=
  ⟨⟨hk, fun b hb h => (hS b h).resolve_right (by omega)⟩, hv, fun _ _ h => h, SV, HV, vs, hs, I.mu (fun b hb h => h.elim Or.inl (fun h => h.1.elim (fun h => Or.inl (hF b h)) Or.inr)), fun _ h => h⟩
theorem IsRef.turn' {Mu Ft : Nat → Prop} {w w' : World} {p : Nat} {R : RefS} {SV HV : Value} {vs : List Value} {hs : List (Int × Value)} (I : IsRef (mnew Mu w) w' p R SV HV vs hs) (hk : Kept Ft w w') (hF : ∀ b, Ft b → Mu b) (hS : ∀ b, ftR p SV HV b → Ft b ∨ w.heap.size ≤ b) :
    ∃ Ft', Turn Ft Ft' w w' ∧ (∀ b, Ft' b → b < w'.heap.size) ∧ (∀ b, Ft' b → Ft b ∨ w.heap.size ≤ b) ∧ RefO p R (mor Mu Ft') Ft' w' :=
  ⟨ftR p SV HV, ⟨hk, fun b hb h => (hS b h).resolve_right (by omega)⟩, I.lt, hS, SV, HV, vs, hs, I.mu (fun b hb h => h.elim Or.inl (fun h => (hS b h).elim (fun h => Or.inl (hF b h)) Or.inr)), fun _ h => h⟩
/-- The place of a held message, or -1. -/
def rfind (ks : List Int) (s : Int) : Int := if ks.findIdx (· == s) < ks.length then (ks.findIdx (· == s) : Int) else -1
theorem rfind_at {ks : List Int} {s : Int} {k : Nat} (hk : k < ks.length) (h0 : ∀ j, j < k → ks.getD j 0 ≠ s) (h1 : ks.getD k 0 = s) : rfind ks s = k := by
  have e : ks.findIdx (· == s) = k := by
    rw [List.findIdx_eq hk]
    refine ⟨?_, fun j hj => ?_⟩
    · rw [beq_iff_eq, ← h1, List.getD_eq_getElem?_getD, List.getElem?_eq_getElem hk]; rfl
    · have := h0 j hj
      rw [List.getD_eq_getElem?_getD, List.getElem?_eq_getElem (by omega)] at this
      rw [beq_eq_false_iff_ne]
      exact this
  unfold rfind
  rw [e, if_pos hk]
theorem rfind_none {ks : List Int} {s : Int} (h0 : ∀ j, j < ks.length → ks.getD j 0 ≠ s) : rfind ks s = -1 := by
  unfold rfind
  rw [if_neg]
  intro h
  have := List.findIdx_getElem (w := h)
  rw [beq_iff_eq] at this
  refine h0 _ h ?_
  rw [List.getD_eq_getElem?_getD, List.getElem?_eq_getElem h]
  exact this
/-- A row of elements of two cells. -/
theorem row2_at {w : World} {base : Nat} {e : TypeId} {A : Option Addr} {n c : Nat} {hs : List (Int × Value)} (ho : w.ownsRow base e 2 (.slice A n c) n (heldC hs)) (hn : 0 < n) : ∃ g, A = some ⟨g, 0, none⟩ ∧ base ≤ g ∧ g < w.heap.size ∧ ∀ k x, hs[k]? = some x → w.cell? ⟨g, k * 2, none⟩ = some (.int .i64 x.1) ∧ w.cell? ⟨g, k * 2 + 1, none⟩ = some x.2 := by
  have hl := ho.1
  rcases ho.2 with ⟨_, h2⟩ | ⟨g, cap, cur, h1, h2, h3, _⟩
  · omega
  · injection h1 with h1 _ _
    refine ⟨g, h1, h2, (Array.getElem?_eq_some_iff.1 h3).1, fun k x hx => ?_⟩
    obtain ⟨e0, e1⟩ := heldC_at hx
    have h4 := ho.cells (g := g) (by rw [h1]; rfl) _ _ e0
    have h5 := ho.cells (g := g) (by rw [h1]; rfl) _ _ e1
    rw [add_at] at h4 h5
    exact ⟨h4, h5⟩
theorem own_form {w : World} {base : Nat} {e : TypeId} {size : Nat} {v : Value} {n : Nat} {xs : List Value} (ho : w.ownsRow base e size v n xs) : ∃ A c, v = .slice A n c ∧ n ≤ c ∧ c ≤ 9223372036854775807 := by
  rcases ho.2 with ⟨h1, h2⟩ | ⟨g, cap, cur, h1, _, _, h4, h5, _⟩
  · exact ⟨none, 0, by rw [h1, h2], by omega, by omega⟩
  · exact ⟨_, cap, h1, h4, by unfold maxLen at h5; exact h5⟩
set_option maxHeartbeats 1000000 in
set_option maxRecDepth 100000 in
theorem rfind_any (Mu : Nat → Prop) (p : Nat) (R : RefS) (SV HV : Value) (vs : List Value) (hs : List (Int × Value)) (w : World) (I : IsRef Mu w p R SV HV vs hs) (s : Int) (r : Int) (hr : r = rfind (R.held.map (·.1)) s) :
    Calls Try.prog 40 #[.pointer (some ⟨p, 0, none⟩), .int .i64 s] w fun e w' => e = .returned (.int .i64 r) ∧ w = w' := by
  obtain ⟨ks, hks⟩ : ∃ l : List Int, l = R.held.map (·.1) := ⟨_, rfl⟩
  obtain ⟨n, hn⟩ : ∃ k, k = R.held.length := ⟨_, rfl⟩
  have hkn : ks.length = n := by rw [hks, hn, List.length_map]
  obtain ⟨A, c, hHV, hnc, hc⟩ := own_form I.hrow
  rw [← hn] at hHV hnc
  have hn1 : n ≤ 1000 := by rw [hn]; exact I.ok.h1
  have hc5 : w.cell? ⟨p, 5, none⟩ = some (.slice A n c) := by rw [← hHV]; exact I.blk.cell 5
  have HROW : Hid (∀ k, k < n → ∃ g, A = some ⟨g, 0, none⟩ ∧ w.cell? ⟨g, k * 2, none⟩ = some (.int .i64 (ks.getD k 0))) := Lib.hid (fun k hk => by
    have ho := I.hrow
    rw [hHV, ← hn] at ho
    obtain ⟨g, h1, _, _, h2⟩ := row2_at ho (by omega)
    have hl : hs.length = n := by have := congrArg List.length I.hks; simpa [hn] using this
    obtain ⟨e1, _⟩ := h2 k (hs[k]'(by omega)) (List.getElem?_eq_getElem _)
    refine ⟨g, h1, ?_⟩
    rw [e1]
    have e2 : ks[k]? = some (hs[k]'(by omega)).1 := by
      have e3 : ks = hs.map (·.1) := hks.trans I.hks.symm
      rw [show ks[k]? = (hs.map (·.1))[k]? by rw [← e3], List.getElem?_map, List.getElem?_eq_getElem (by omega)]; rfl
    rw [List.getD_eq_getElem?_getD, e2]; rfl)
  rw [← hks] at hr
  have HR := Lib.hid hr; have HKN := Lib.hid hkn
  clear hr hkn hHV hks hn I
  go_enter Try.func40, Try.ntmps40
  go_wp2_with fail
  go_loop [5] (fun i => ∃ k : Nat, k ≤ n ∧ i = .int .i64 k ∧ ∀ j, j < k → ks.getD j 0 ≠ s) (fun i => n - (intOf i).toNat)
  case atStart => exact ⟨0, Nat.zero_le _, rfl, fun j hj => by omega⟩
  case round =>
    obtain ⟨k, hk, rfl, h0⟩ := hrel
    have H0 := Lib.hid h0
    clear h0
    by_cases hlt : k < n
    · obtain ⟨g, hA, hcell⟩ := HROW.out k hlt
      subst hA
      obtain ⟨x, hx⟩ : ∃ x, x = ks.getD k 0 := ⟨_, rfl⟩
      rw [← hx] at hcell
      have HX := Lib.hid hx
      clear hx
      by_cases hxs : x = s
      · have hq : ((x : Int) == s) = true := by rw [hxs]; exact beq_self_eq_true s
        have HXS := Lib.hid hxs
        clear hxs
        go_wp2_with fail
        go_ret
        refine ⟨?_, rfl⟩
        rw [HR.out, rfind_at (by rw [HKN.out]; exact hlt) H0.out (by rw [← HX.out, HXS.out])]; rfl
      · have hq : ((x : Int) == s) = false := by rw [beq_eq_false_iff_ne]; exact hxs
        have HXS := Lib.hid hxs
        clear hxs
        go_wp2_with fail
        go_round
        case rel => exact ⟨k + 1, by omega, by go_num, fun j hj => by
          rcases Nat.lt_or_ge j k with h | h
          · exact H0.out j h
          · have : j = k := by omega
            rw [this, ← HX.out]; exact HXS.out⟩
        case measure => simp [intOf]; omega
    · obtain rfl : k = n := by omega
      go_wp2_with fail
      go_ret
      refine ⟨?_, rfl⟩
      rw [HR.out, rfind_none (fun j hj => H0.out j (by rw [HKN.out] at hj; exact hj))]; rfl
end Go.Proofs.Ytkgmoklifkojhaa
