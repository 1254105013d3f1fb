/- The plain law of LinkRuns: an end and the reference's End answer alike. No condition. -/
import Derived.Test.YtkgmoklifkojhaaLkRunF
set_option linter.unusedSimpArgs false
set_option linter.unusedVariables false
namespace Go.Proofs.Ytkgmoklifkojhaa
open Go.RowKit
/-- What one End of the reference keeps. -/
structure RInv (R : RefS) : Prop where
  nd : (R.held.map (·.1)).Nodup
  gt : ∀ x ∈ R.held, R.got < x.1
  a0 : 0 ≤ R.acked
  a1 : R.acked ≤ R.sent.length
theorem rfind_get {l : List (Int × List Int)} {s : Int} (h : 0 ≤ rfind (l.map (·.1)) s) : ∃ hi : (rfind (l.map (·.1)) s).toNat < l.length, (l[(rfind (l.map (·.1)) s).toNat]).1 = s := by
  unfold rfind at h ⊢
  split at h
  · rename_i hlt
    have hl : List.findIdx (fun x => x == s) (l.map (·.1)) < l.length := by rw [List.length_map] at hlt; exact hlt
    simp only [if_pos hlt, Int.toNat_natCast]
    refine ⟨hl, ?_⟩
    have := List.findIdx_getElem (w := hlt)
    rw [beq_iff_eq, List.getElem_map] at this
    exact this
  · omega
theorem rfind_neg {l : List (Int × List Int)} {s : Int} : rfind (l.map (·.1)) s < 0 ↔ ∀ x ∈ l, x.1 ≠ s := by
  constructor
  · intro h x hx he
    unfold rfind at h
    split at h
    · omega
    · rename_i hlt
      refine hlt (List.findIdx_lt_length_of_exists ⟨x.1, List.mem_map_of_mem hx, ?_⟩)
      rw [beq_iff_eq]; exact he
  · intro h
    by_cases h1 : rfind (l.map (·.1)) s < 0
    · exact h1
    · obtain ⟨hi, he⟩ := rfind_get (l := l) (s := s) (by omega)
      exact absurd he (h _ (List.getElem_mem hi))
theorem find_none {l : List (Int × List Int)} {s : Int} (h : ∀ x ∈ l, x.1 ≠ s) : l.find? (fun x => x.1 == s) = none := by
  rw [List.find?_eq_none]
  intro x hx he
  rw [beq_iff_eq] at he
  exact h x hx he
theorem find_split {a b : List (Int × List Int)} {x : Int × List Int} (hn : ((a ++ x :: b).map (·.1)).Nodup) (j : Int) : (a ++ b).find? (fun y => y.1 == j) = if j = x.1 then none else (a ++ x :: b).find? (fun y => y.1 == j) := by
  rw [List.map_append, List.map_cons, List.nodup_append] at hn
  obtain ⟨h1, h2, h3⟩ := hn
  rw [List.nodup_cons] at h2
  by_cases h : j = x.1
  · rw [if_pos h, List.find?_append, find_none, find_none]
    · rfl
    · intro y hy he
      exact h2.1 (by rw [← h, ← he]; exact List.mem_map_of_mem hy)
    · intro y hy he
      exact h3 y.1 (List.mem_map_of_mem hy) x.1 (List.mem_cons_self ..) (by rw [he, h])
  · rw [if_neg h, List.find?_append, List.find?_append, List.find?_cons_of_neg]
    simp only [beq_iff_eq]
    exact fun h4 => h h4.symm
theorem split_at {l : List (Int × List Int)} {i : Nat} (hi : i < l.length) : l = l.take i ++ l[i] :: l.drop (i + 1) := by
  rw [← List.drop_eq_getElem_cons hi, List.take_append_drop]
theorem toE_step {R : RefS} {tot i : Nat} (h : RInv R) (hi : i < R.held.length) (hk : (R.held[i]).1 = R.got + 1) : stepD (toE R tot) = toE (stepR R i) tot ∧ RInv (stepR R i) := by
  have hs := split_at hi
  have hn := h.nd
  rw [hs] at hn
  constructor
  · unfold stepD toE stepR
    simp only [EndS.mk.injEq, true_and]
    refine ⟨funext fun j => ?_, by simp only [List.length_append, List.length_take, List.length_drop]; omega⟩
    rw [find_split hn j, ← hs, hk]
    by_cases hj : j = R.got + 1
    · rw [if_pos hj, if_pos hj]; rfl
    · rw [if_neg hj, if_neg hj]
  · have hn2 := hn
    rw [List.map_append, List.map_cons, List.nodup_append] at hn2
    obtain ⟨h1, h2, h3⟩ := hn2
    rw [List.nodup_cons] at h2
    refine ⟨?_, fun x hx => ?_, h.a0, h.a1⟩
    · simp only [stepR, List.map_append, List.nodup_append]
      exact ⟨h1, h2.2, fun a ha b hb => h3 a ha b (List.mem_cons_of_mem _ hb)⟩
    · have hx2 : x ∈ R.held := by
        simp only [stepR, List.mem_append] at hx
        exact hx.elim List.mem_of_mem_take List.mem_of_mem_drop
      have hg := h.gt x hx2
      have hne : x.1 ≠ R.got + 1 := by
        rw [← hk]
        simp only [stepR, List.mem_append] at hx
        rcases hx with hx | hx
        · exact h3 x.1 (List.mem_map_of_mem hx) _ (List.mem_cons_self ..)
        · exact fun he => h2.1 (by rw [← he]; exact List.mem_map_of_mem hx)
      show R.got + 1 < x.1
      omega
theorem toE_deliver : ∀ (k : Nat) (R : RefS) (tot : Nat) (out : List (List Int)), RInv R → R.held.length = k → deliverN k (toE R tot) out = ((rdel k R out).1, toE (rdel k R out).2 tot) ∧ RInv (rdel k R out).2 ∧ rfind (keysR (rdel k R out).2) ((rdel k R out).2.got + 1) < 0 ∧ (rdel k R out).2.got + (rdel k R out).2.held.length = R.got + R.held.length ∧ R.got ≤ (rdel k R out).2.got ∧ (rdel k R out).2.sent = R.sent ∧ (rdel k R out).2.acked = R.acked ∧ (rdel k R out).2.win = R.win ∧ (rdel k R out).2.key = R.key ∧ (rdel k R out).2.forged = R.forged
  | 0, R, tot, out, h, hk => by
    have hnil : R.held = [] := List.eq_nil_of_length_eq_zero hk
    refine ⟨rfl, h, ?_, rfl, Int.le_refl _, rfl, rfl, rfl, rfl, rfl⟩
    show rfind (keysR R) _ < 0
    unfold keysR
    rw [rfind_neg, hnil]
    intro x hx; cases hx
  | k + 1, R, tot, out, h, hk => by
    unfold deliverN rdel
    by_cases hf : rfind (keysR R) (R.got + 1) < 0
    · have hnone : (toE R tot).held ((toE R tot).delivered + 1) = none := by
        show (R.held.find? (fun x => x.1 == R.got + 1)).map (·.2) = none
        unfold keysR at hf
        rw [find_none (rfind_neg.1 hf)]; rfl
      rw [hnone, if_pos hf]
      exact ⟨rfl, h, hf, rfl, Int.le_refl _, rfl, rfl, rfl, rfl, rfl⟩
    · rw [if_neg hf]
      unfold keysR at hf ⊢
      obtain ⟨hi, he⟩ := rfind_get (l := R.held) (s := R.got + 1) (by omega)
      generalize (rfind (R.held.map (·.1)) (R.got + 1)).toNat = i at hi he ⊢
      have hsome : (toE R tot).held ((toE R tot).delivered + 1) = some (R.held[i]).2 := by
        show (R.held.find? (fun x => x.1 == R.got + 1)).map (·.2) = _
        have hs := split_at hi
        have hn := h.nd
        rw [hs] at hn
        rw [List.map_append, List.map_cons, List.nodup_append] at hn
        have e0 : R.held.find? (fun x => x.1 == R.got + 1) = (R.held.take i ++ R.held[i] :: R.held.drop (i + 1)).find? (fun x => x.1 == R.got + 1) := congrArg _ hs
        rw [e0, List.find?_append, find_none (l := R.held.take i) (fun x hx hxe => hn.2.2 x.1 (List.mem_map_of_mem hx) _ (List.mem_cons_self ..) (by rw [hxe, he])), Option.none_or, List.find?_cons_of_pos (by rw [beq_iff_eq]; exact he)]
        rfl
      rw [hsome]
      simp only
      have hg : (R.held.getD i (0, [])).2 = (R.held[i]).2 := by rw [List.getD_eq_getElem?_getD, List.getElem?_eq_getElem hi]; rfl
      rw [hg]
      obtain ⟨e1, e2⟩ := toE_step (tot := tot) h hi he
      rw [e1]
      have hl := stepR_len hi
      obtain ⟨r1, r2, r3, r4, r5, r6, r7, r8, r9, r10⟩ := toE_deliver k (stepR R i) tot (out ++ [(R.held[i]).2]) e2 (by omega)
      have hg2 : (stepR R i).got = R.got + 1 := rfl
      exact ⟨r1, r2, r3, by omega, by omega, r6, r7, r8, r9, r10⟩
theorem toE_ack {R : RefS} {tot : Nat} {a : Int} (h : RInv R) (ha : a ≤ R.sent.length) : ackE (toE R tot) a = toE (ackR R a) tot ∧ RInv (ackR R a) := by
  obtain ⟨h1, h2, h3, h4⟩ := h
  constructor
  · unfold ackE
    by_cases hc : 0 < a - R.acked
    · rw [if_pos (show 0 < a - (toE R tot).acked from hc)]
      unfold toE ackR
      have e : max R.acked a = a := by omega
      simp only [EndS.mk.injEq, true_and, and_true, e, List.drop_drop]
      congr 1
      omega
    · rw [if_neg (show ¬ 0 < a - (toE R tot).acked from hc)]
      unfold toE ackR
      have e : max R.acked a = R.acked := by omega
      simp only [e]
  · exact ⟨h1, h2, by simp only [ackR]; omega, by simp only [ackR]; omega⟩
theorem toE_put {R : RefS} {tot : Nat} {s : Int} {m : List Int} (h : RInv R) (hs : R.got < s) (hf : rfind (keysR R) s < 0) : putE (toE R tot) s m = toE (putR R s m) (tot + 1) ∧ RInv (putR R s m) := by
  have hn := rfind_neg.1 hf
  have hnone : (toE R tot).held s = none := by
    show (R.held.find? (fun x => x.1 == s)).map (·.2) = none
    rw [find_none hn]; rfl
  constructor
  · unfold putE
    rw [if_pos ⟨hs, hnone⟩]
    unfold toE putR
    simp only [EndS.mk.injEq, true_and, List.length_append, List.length_cons, List.length_nil, and_true]
    refine funext fun j => ?_
    rw [List.find?_append]
    by_cases hj : j = s
    · subst hj
      rw [if_pos rfl, find_none hn, Option.none_or, List.find?_cons_of_pos (by rw [beq_iff_eq])]
      rfl
    · rw [if_neg hj, List.find?_cons_of_neg (by rw [beq_iff_eq]; exact fun h => hj h.symm), List.find?_nil, Option.or_none]
  · refine ⟨?_, fun x hx => ?_, h.a0, h.a1⟩
    · simp only [putR, List.map_append, List.map_cons, List.map_nil, List.nodup_append]
      refine ⟨h.nd, by simp, fun a ha b hb => ?_⟩
      obtain ⟨x, hx, rfl⟩ := List.mem_map.1 ha
      rw [List.mem_singleton] at hb
      rw [hb]
      exact hn x hx
    · simp only [putR, List.mem_append, List.mem_singleton] at hx
      rcases hx with hx | hx
      · exact h.gt x hx
      · rw [hx]; exact hs
/-- An end E that answers as the reference's End R; n: calls so far. -/
structure RunR (win key : Int) (E : EndS) (R : RefS) (n : Nat) : Prop where
  e : ∃ tot, E = toE R tot ∧ tot ≤ n
  i : RInv R
  f : rfind (keysR R) (R.got + 1) < 0
  wi : R.win = win
  ky : R.key = key
  sn : R.sent.length ≤ n
  sm : ∀ j, j < R.sent.length → Byt (R.sent.getD j []) ∧ (R.sent.getD j []).length = 2
  g0 : 0 ≤ R.got
  g1 : R.got + R.held.length ≤ n
  f0 : 0 ≤ R.forged
  f1 : R.forged ≤ n
theorem runr_new (win key : Int) : RunR win key (newE win key) ⟨win, key, [], 0, 0, [], false, 0⟩ 0 := by
  refine ⟨⟨0, by simp [newE, toE], Nat.le_refl _⟩, ⟨by simp, fun x hx => (by cases hx), by simp, by simp⟩, ?_, rfl, rfl, by simp, fun j hj => by simp at hj, by simp, by simp, by simp, by simp⟩
  show rfind [] 1 < 0
  unfold rfind
  simp
section
variable {win key : Int} {E : EndS} {R : RefS} {n : Nat}
theorem RunR.late (h : RunR win key E R n) {m : Nat} (hm : n ≤ m) : RunR win key E R m := by
  obtain ⟨⟨t, h1, h2⟩, h3, h4, h5, h6, h7, h8, h9, h10, h11, h12⟩ := h
  exact ⟨⟨t, h1, by omega⟩, h3, h4, h5, h6, by omega, h8, h9, by omega, h11, by omega⟩
theorem RunR.send (h : RunR win key E R n) {m : List Int} (hm : Byt m ∧ m.length = 2) : RunR win key (sendE E m) (sendR R m) (n + 1) := by
  obtain ⟨⟨t, h1, h2⟩, h3, h4, h5, h6, h7, h8, h9, h10, h11, h12⟩ := h
  have ha0 := h3.a0
  have ha1 := h3.a1
  refine ⟨⟨t, ?_, by omega⟩, ⟨h3.nd, h3.gt, h3.a0, by simp only [sendR, List.length_append, List.length_cons, List.length_nil]; omega⟩, h4, h5, h6, by simp only [sendR, List.length_append, List.length_cons, List.length_nil]; omega, fun j hj => ?_, h9, by show R.got + R.held.length ≤ _; omega, h11, by show R.forged ≤ _; omega⟩
  · rw [h1]
    unfold sendE sendR toE
    simp only [EndS.mk.injEq, true_and, and_true]
    rw [List.drop_append_of_le_length (by omega)]
  · simp only [sendR, List.length_append, List.length_cons, List.length_nil] at hj ⊢
    rw [List.getD_eq_getElem?_getD]
    by_cases hjl : j < R.sent.length
    · rw [List.getElem?_append_left hjl, ← List.getD_eq_getElem?_getD]; exact h8 j hjl
    · rw [List.getElem?_append_right (by omega), show j - R.sent.length = 0 by omega]
      exact hm
theorem RunR.out (h : RunR win key E R n) : RunR win key (outE E) (outR R) (n + 1) ∧ outL E = outL (toE R 0) := by
  obtain ⟨⟨t, h1, h2⟩, h3, h4, h5, h6, h7, h8, h9, h10, h11, h12⟩ := h
  refine ⟨⟨⟨t, by rw [h1]; rfl, by omega⟩, ⟨h3.nd, h3.gt, h3.a0, h3.a1⟩, h4, h5, h6, by show R.sent.length ≤ _; omega, h8, h9, by show R.got + R.held.length ≤ _; omega, h11, by show R.forged ≤ _; omega⟩, ?_⟩
  rw [h1]; rfl
theorem RunR.in (h : RunR win key E R n) (x : List Int) : ∃ xs r E', inE E x = ((xs, r), E') ∧ (inR R x).1 = (xs, r) ∧ RunR win key E' (inR R x).2 (n + 1) := by
  obtain ⟨⟨t, h1, h2⟩, h3, h4, h5, h6, h7, h8, h9, h10, h11, h12⟩ := h
  have hsame : RunR win key E R (n + 1) := ⟨⟨t, h1, by omega⟩, h3, h4, h5, h6, by omega, h8, h9, by omega, h11, by omega⟩
  have hkey : E.key = R.key := by rw [h1]; rfl
  unfold inE inR
  rw [hkey]
  by_cases ho : (openL R.key x).2 = 0
  · rw [if_pos ho, if_pos ho]
    cases hr : readL (openL R.key x).1 with
    | none => exact ⟨[], 2, E, rfl, rfl, hsame⟩
    | some q =>
      obtain ⟨s, a, m⟩ := q
      simp only
      have hfar : (E.acked + E.waiting.length < a ∨ E.delivered + 16 < s) ↔ ((R.sent.length : Int) < a ∨ R.got + 16 < s) := by
        have e1 : E.acked + E.waiting.length = (R.sent.length : Int) := by
          rw [h1]; simp only [toE, List.length_drop]; have := h3.a0; have := h3.a1; omega
        rw [e1, h1]; rfl
      unfold pktIn pktR
      by_cases hc : (R.sent.length : Int) < a ∨ R.got + 16 < s
      · rw [if_pos hc, if_pos (hfar.2 hc)]
        exact ⟨[], 0, E, rfl, rfl, hsame⟩
      · rw [if_neg hc, if_neg (fun h => hc (hfar.1 h))]
        obtain ⟨ea, ia⟩ := toE_ack (tot := t) (a := a) h3 (by omega)
        have hack : RunR win key (ackE E a) (ackR R a) (n + 1) := ⟨⟨t, by rw [h1, ea], by omega⟩, ia, h4, h5, h6, by show R.sent.length ≤ _; omega, h8, h9, by show R.got + R.held.length ≤ _; omega, h11, by show R.forged ≤ _; omega⟩
        by_cases hs0 : s = 0
        · rw [if_pos hs0, if_pos hs0]
          exact ⟨[], 0, _, rfl, rfl, hack⟩
        · rw [if_neg hs0, if_neg hs0]
          have hio : RInv (owesR (ackR R a)) := ⟨ia.nd, ia.gt, ia.a0, ia.a1⟩
          have howe : RunR win key (owesE (ackE E a)) (owesR (ackR R a)) (n + 1) := by
            obtain ⟨_, _, g4, g5, g6, g7, g8, g9, g10, g11, g12⟩ := hack
            exact ⟨⟨t, by rw [h1, ea]; rfl, by omega⟩, hio, g4, g5, g6, g7, g8, g9, g10, g11, g12⟩
          have heq : owesE (ackE E a) = toE (owesR (ackR R a)) t := by rw [h1, ea]; rfl
          by_cases hold : s ≤ R.got ∨ 0 ≤ rfind (keysR R) s
          · rw [if_pos hold]
            have hput : putE (owesE (ackE E a)) s m = owesE (ackE E a) := by
              unfold putE
              rw [if_neg]
              rintro ⟨q1, q2⟩
              rw [heq] at q1 q2
              rcases hold with h | h
              · have : R.got < s := q1
                omega
              · obtain ⟨hi, he⟩ := rfind_get h
                have q3 : (R.held.find? (fun y => y.1 == s)).map (·.2) = none := q2
                rw [Option.map_eq_none_iff, List.find?_eq_none] at q3
                exact q3 _ (List.getElem_mem hi) (by rw [beq_iff_eq]; exact he)
            have hdel : ∀ k, deliverN k (owesE (ackE E a)) [] = ([], owesE (ackE E a)) := fun k => by
              cases k with
              | zero => rfl
              | succ k =>
                unfold deliverN
                have : (owesE (ackE E a)).held ((owesE (ackE E a)).delivered + 1) = none := by
                  rw [heq]
                  show (R.held.find? (fun y => y.1 == R.got + 1)).map (·.2) = none
                  rw [find_none (rfind_neg.1 h4)]; rfl
                rw [this]
            simp only
            rw [hput, hdel]
            exact ⟨[], 0, _, rfl, rfl, howe⟩
          · rw [if_neg hold]
            obtain ⟨ep, ip⟩ := toE_put (R := owesR (ackR R a)) (tot := t) (s := s) (m := m) hio (by show R.got < s; omega) (by show rfind (keysR R) s < 0; omega)
            have hlen : (putR (owesR (ackR R a)) s m).held.length = R.held.length + 1 := by simp [putR, owesR, ackR]
            obtain ⟨r1, r2, r3, r4, r5, r6, r7, r8, r9, r10⟩ := toE_deliver (R.held.length + 1) (putR (owesR (ackR R a)) s m) (t + 1) [] ip hlen
            simp only
            rw [heq, ep, show (toE (putR (owesR (ackR R a)) s m) (t + 1)).cnt = R.held.length + 1 from hlen, r1]
            have hgo : (putR (owesR (ackR R a)) s m).got = R.got := rfl
            refine ⟨_, 0, _, rfl, rfl, ⟨t + 1, rfl, by omega⟩, r2, r3, by rw [r8]; exact h5, by rw [r9]; exact h6, ?_, ?_, by omega, by omega, by rw [r10]; exact h11, by rw [r10]; show R.forged ≤ _; omega⟩
            · rw [r6]; show R.sent.length ≤ _; omega
            · rw [r6]; exact h8
  · rw [if_neg ho, if_neg ho]
    by_cases h9' : (openL R.key x).2 = 9
    · rw [if_pos h9', if_pos h9']
      refine ⟨[], _, _, rfl, rfl, ⟨t, by rw [h1]; rfl, by omega⟩, ⟨h3.nd, h3.gt, h3.a0, h3.a1⟩, h4, h5, h6, by show R.sent.length ≤ _; omega, h8, h9, by show R.got + R.held.length ≤ _; omega, by show 0 ≤ R.forged + 1; omega, by show R.forged + 1 ≤ _; omega⟩
    · rw [if_neg h9', if_neg h9']
      exact ⟨[], _, E, rfl, rfl, hsame⟩
/-- What the walk asks of the two. -/
theorem RunR.facts (h : RunR win key E R n) (hn : n ≤ 60) : (E.waiting.length < 1000 ∧ E.acked + E.waiting.length < 1000000000) ∧ (E.forged < 1000000000 ∧ E.tot < 1000000000 ∧ E.delivered + E.cnt < 1000000000) ∧ (R.sent.length < 1000 ∧ (R.sent.length : Int) - R.acked < 1000) ∧ (R.held.length < 1000 ∧ R.got + R.held.length < 1000000000 ∧ R.forged < 1000000000) ∧ (E.waiting.length : Int) = R.sent.length - R.acked ∧ E.forged = R.forged := by
  obtain ⟨⟨t, h1, h2⟩, h3, h4, h5, h6, h7, h8, h9, h10, h11, h12⟩ := h
  have ha0 := h3.a0
  have ha1 := h3.a1
  subst h1
  simp only [toE, List.length_drop]
  refine ⟨⟨by omega, by omega⟩, ⟨by omega, by omega, by omega⟩, ⟨by omega, by omega⟩, ⟨by omega, by omega, by omega⟩, by omega, trivial⟩
theorem packL_ge (s a : Int) (m : List Int) : 4 ≤ (packL s a m).length := by
  unfold packL
  have h1 := encB_pos (strOf m)
  have h2 := encInt_pos s
  have h3 := encInt_pos a
  have h4 := encInt_pos (([s, a] : List Int).length : Int)
  rw [List.length_append]
  have h5 : (encL encInt [s, a]).length = (encInt (([s, a] : List Int).length : Int)).length + ((encInt s).length + (encInt a).length) := by
    simp [encL]
  omega
theorem seal_pack (key s a : Int) (s0 : -9223372036854775808 ≤ s) (s1 : s ≤ 9223372036854775807) (a0 : -9223372036854775808 ≤ a) (a1 : a ≤ 9223372036854775807) (m : List Int) (hm : m.length ≤ 20) : Byt (sealL key (packL s a m)) ∧ 12 ≤ (sealL key (packL s a m)).length ∧ (sealL key (packL s a m)).length ≤ 100 := by
  refine ⟨?_, ?_, ?_⟩
  · unfold sealL
    exact (packL_byt s a s0 s1 a0 a1 m (by omega)).app (sealB_byt key _)
  · rw [sealL_length]; have := packL_ge s a m; omega
  · rw [sealL_length]; have := packL_le s a s0 s1 a0 a1 m (by omega); omega
/-- The packets of an Out. -/
theorem RunR.pks (h : RunR win key E R n) (hn : n ≤ 60) (hw : win ≤ 16) : (∀ j, j < (outL E).length → Byt ((outL E).getD j []) ∧ 12 ≤ ((outL E).getD j []).length ∧ ((outL E).getD j []).length ≤ 100) ∧ (outL E).length ≤ 16 := by
  obtain ⟨⟨t, h1, h2⟩, h3, h4, h5, h6, h7, h8, h9, h10, h11, h12⟩ := h
  have ha0 := h3.a0
  have ha1 := h3.a1
  have hwin : E.window = win := by rw [h1]; exact h5
  unfold outL
  by_cases hc : outK E = 0 ∧ E.owing = true
  · rw [if_pos hc]
    refine ⟨fun j hj => ?_, by simp⟩
    obtain rfl : j = 0 := by simpa using hj
    rw [List.getD_cons_zero]
    have hd : E.delivered = R.got := by rw [h1]; rfl
    exact seal_pack _ _ _ (by omega) (by omega) (by omega) (by omega) _ (by simp)
  · rw [if_neg hc]
    refine ⟨fun j hj => ?_, by rw [outTo_length]; unfold outK; omega⟩
    rw [outTo_length] at hj
    have e1 : (outTo E (outK E)).getD j [] = pktE E j := by
      unfold outTo
      rw [List.getD_eq_getElem?_getD, List.getElem?_map, List.getElem?_range hj]; rfl
    rw [e1]
    unfold pktE
    have hlen : (E.waiting.getD j []).length ≤ 20 := by
      have hw2 : E.waiting = R.sent.drop R.acked.toNat := by rw [h1]; rfl
      have hj2 : j < E.waiting.length := by unfold outK at hj; omega
      rw [hw2, List.length_drop] at hj2
      rw [hw2, List.getD_eq_getElem?_getD, List.getElem?_drop, ← List.getD_eq_getElem?_getD, (h8 _ (by omega)).2]
      omega
    have hd : E.delivered = R.got := by rw [h1]; rfl
    have hak : E.acked = R.acked := by rw [h1]; rfl
    have hjn : j < 16 := by unfold outK at hj; omega
    exact seal_pack _ _ _ (by omega) (by omega) (by omega) (by omega) _ hlen
end
end Go.Proofs.Ytkgmoklifkojhaa
