/- The plain law of progress: two ends that deliver in order, round after round. No condition. -/
import Derived.Test.YtkgmoklifkojhaaLkPlain
import Derived.Test.YtkgmoklifkojhaaLkK
set_option linter.unusedSimpArgs false
set_option linter.unusedVariables false
namespace Go.Proofs.Ytkgmoklifkojhaa
open Go.RowKit
/-- Messages a, .., m - 1: each of one byte, its number. -/
def msgsN (a m : Nat) : List (List Int) := (List.range (m - a)).map fun i => [((a + i : Nat) : Int)]
theorem msgsN_len (a m : Nat) : (msgsN a m).length = m - a := by simp [msgsN]
theorem msgsN_get {a m i : Nat} (h : i < m - a) : (msgsN a m).getD i [] = [((a + i : Nat) : Int)] := by
  simp [msgsN, List.getD_eq_getElem?_getD, h]
theorem msgsN_snoc (m : Nat) : msgsN 0 m ++ [[(m : Int)]] = msgsN 0 (m + 1) := by
  simp [msgsN, List.range_succ]
theorem msgsN_drop (a m k : Nat) : (msgsN a m).drop k = msgsN (a + k) m := by
  apply List.ext_getElem?
  intro i
  rw [List.getElem?_drop]
  by_cases h : k + i < m - a
  · rw [List.getElem?_eq_getElem (by rw [msgsN_len]; exact h), List.getElem?_eq_getElem (by rw [msgsN_len]; omega)]
    simp only [msgsN, List.getElem_map, List.getElem_range]
    rw [show a + (k + i) = a + k + i by omega]
  · rw [List.getElem?_eq_none (by rw [msgsN_len]; omega), List.getElem?_eq_none (by rw [msgsN_len]; omega)]
/-- An end that has m messages sent, a of them acknowledged, and d delivered; none is held. -/
def EP (win key : Int) (m a d : Nat) (ow : Bool) : EndS := ⟨win, key, msgsN a m, a, d, fun _ => none, ow, 0, d, 0⟩
theorem ep_new (win key : Int) : newE win key = EP win key 0 0 0 false := rfl
theorem ep_send (win key : Int) (m d : Nat) (ow : Bool) : sendE (EP win key m 0 d ow) [(m : Int)] = EP win key (m + 1) 0 d ow := by
  unfold sendE EP
  simp only
  rw [msgsN_snoc]
theorem ep_out (win key : Int) (m a d : Nat) (ow : Bool) : outE (EP win key m a d ow) = EP win key m a d false := rfl
/-- How many messages Out sends. -/
def nOut (win : Int) (m a : Nat) : Nat := min (m - a) win.toNat
/-- How many packets Out sends. -/
def kOut (win : Int) (m a : Nat) (ow : Bool) : Nat := if nOut win m a = 0 ∧ ow = true then 1 else nOut win m a
theorem ep_outL (win key : Int) (m a d : Nat) (ow : Bool) : outL (EP win key m a d ow) = if nOut win m a = 0 ∧ ow = true then [sealL key (packL 0 d [])] else (List.range (nOut win m a)).map fun (i : Nat) => sealL key (packL (a + i + 1) d [((a + i : Nat) : Int)]) := by
  have h : outK (EP win key m a d ow) = nOut win m a := by
    unfold outK nOut
    show min (msgsN a m).length win.toNat = _
    rw [msgsN_len]
  unfold outL
  rw [h]
  have eo : (EP win key m a d ow).owing = ow := rfl
  rw [eo]
  by_cases h1 : nOut win m a = 0 ∧ ow = true
  · rw [if_pos h1, if_pos h1]
    rfl
  · rw [if_neg h1, if_neg h1]
    unfold outTo
    refine List.map_congr_left fun i hi => ?_
    rw [List.mem_range] at hi
    unfold pktE
    show sealL key (packL ((a : Int) + i + 1) d ((msgsN a m).getD i [])) = _
    rw [msgsN_get (by unfold nOut at hi; omega)]
theorem ep_outL_len (win key : Int) (m a d : Nat) (ow : Bool) : (outL (EP win key m a d ow)).length = kOut win m a ow := by
  rw [ep_outL]
  unfold kOut
  split
  · rfl
  · simp
theorem ep_ack {win key : Int} {m a d c : Nat} {ow : Bool} (h : a ≤ c) : ackE (EP win key m a d ow) c = EP win key m c d ow := by
  unfold ackE
  split
  · rename_i h1
    have e : ((c : Int) - (a : Int)).toNat = c - a := by omega
    show ({ (EP win key m a d ow) with waiting := (msgsN a m).drop ((c : Int) - (a : Int)).toNat, acked := (c : Int) } : EndS) = _
    rw [e, msgsN_drop, show a + (c - a) = c by omega]
    rfl
  · rename_i h1
    have h2 : ¬ (0 : Int) < (c : Int) - (a : Int) := h1
    obtain rfl : a = c := by omega
    rfl
theorem ep_data {win key : Int} {m a d c s : Nat} {ow : Bool} (h : a ≤ c) (hm : c ≤ m) (hs : s ≤ d) : pktIn (EP win key m a d ow) ((s : Int) + 1) c [(s : Int)] = ((if s = d then [[(s : Int)]] else [], 0), EP win key m c (max d (s + 1)) true) := by
  unfold pktIn
  have e1 : ¬ ((EP win key m a d ow).acked + (EP win key m a d ow).waiting.length < (c : Int) ∨ (EP win key m a d ow).delivered + 16 < (s : Int) + 1) := by
    show ¬ ((a : Int) + ((msgsN a m).length : Int) < (c : Int) ∨ (d : Int) + 16 < (s : Int) + 1)
    rw [msgsN_len]
    omega
  rw [if_neg e1, if_neg (by omega), ep_ack h]
  have e2 : owesE (EP win key m c d ow) = EP win key m c d true := rfl
  rw [e2]
  by_cases hsd : s = d
  · subst hsd
    have e3 : putE (EP win key m c s true) ((s : Int) + 1) [(s : Int)] = ({ EP win key m c s true with held := fun j => if j = (s : Int) + 1 then some [(s : Int)] else none, tot := s + 1, cnt := 1 } : EndS) := by
      unfold putE
      rw [if_pos]
      · rfl
      · exact ⟨by show (s : Int) < (s : Int) + 1; omega, rfl⟩
    rw [e3, if_pos rfl]
    have e4 : max s (s + 1) = s + 1 := by omega
    rw [e4]
    simp only [deliverN, EP, if_true, stepD]
    refine Prod.ext ?_ ?_
    · rfl
    · have e5 : (fun j => if j = (s : Int) + 1 then none else if j = (s : Int) + 1 then some [(s : Int)] else none) = fun _ : Int => (none : Option (List Int)) := by
        funext j
        by_cases hj : j = (s : Int) + 1
        · rw [if_pos hj]
        · rw [if_neg hj, if_neg hj]
      exact congrArg (fun f => (⟨win, key, msgsN c m, (c : Int), (s : Int) + 1, f, true, 0, s + 1, 0⟩ : EndS)) e5
  · have e3 : putE (EP win key m c d true) ((s : Int) + 1) [(s : Int)] = EP win key m c d true := by
      unfold putE
      rw [if_neg]
      intro h3
      have h4 : (d : Int) < (s : Int) + 1 := h3.1
      omega
    rw [e3, if_neg hsd, show max d (s + 1) = d by omega]
    rfl
theorem ep_only {win key : Int} {m a d c : Nat} {ow : Bool} (h : a ≤ c) (hm : c ≤ m) : pktIn (EP win key m a d ow) 0 c [] = (([], 0), EP win key m c d ow) := by
  unfold pktIn
  have e1 : ¬ ((EP win key m a d ow).acked + (EP win key m a d ow).waiting.length < (c : Int) ∨ (EP win key m a d ow).delivered + 16 < 0) := by
    show ¬ ((a : Int) + ((msgsN a m).length : Int) < (c : Int) ∨ (d : Int) + 16 < 0)
    rw [msgsN_len]
    omega
  rw [if_neg e1, if_pos rfl, ep_ack h]
/-- The other end after i packets of an Out (n messages, from a on; acknowledgement c). -/
def rAck (a' c i : Nat) : Nat := if i = 0 then a' else c
def rDel (d' a n i : Nat) : Nat := if n = 0 then d' else if i = 0 then d' else max d' (a + i)
def rOw (ow' : Bool) (n i : Nat) : Bool := ow' || (decide (0 < i) && decide (0 < n))
/-- Packet i at the other end: it delivers the next message, or none. -/
theorem ep_step {win key win' : Int} {m a d m' a' d' : Nat} {ow ow' : Bool} (hm : m ≤ 255) (hd : d ≤ m') (hd2 : d ≤ 1000) (ha' : a' ≤ d) (had : a ≤ d') (i : Nat) (hi : i < kOut win m a ow) :
    ∃ xs, inE (EP win' key m' (rAck a' d i) (rDel d' a (nOut win m a) i) (rOw ow' (nOut win m a) i)) ((outL (EP win key m a d ow)).getD i []) = ((xs, 0), EP win' key m' (rAck a' d (i + 1)) (rDel d' a (nOut win m a) (i + 1)) (rOw ow' (nOut win m a) (i + 1)))
      ∧ ((xs = [] ∧ rDel d' a (nOut win m a) (i + 1) = rDel d' a (nOut win m a) i) ∨ (xs = [[(rDel d' a (nOut win m a) i : Int)]] ∧ rDel d' a (nOut win m a) (i + 1) = rDel d' a (nOut win m a) i + 1)) := by
  have hn : nOut win m a ≤ m - a := by unfold nOut; omega
  have hra : rAck a' d i ≤ d := by unfold rAck; split <;> omega
  have hra2 : rAck a' d (i + 1) = d := by unfold rAck; rw [if_neg (by omega)]
  rw [ep_outL]
  unfold kOut at hi
  by_cases h0 : nOut win m a = 0 ∧ ow = true
  · rw [if_pos h0] at hi ⊢
    obtain rfl : i = 0 := by omega
    refine ⟨[], ?_, Or.inl ⟨rfl, by unfold rDel; rw [if_pos h0.1, if_pos h0.1]⟩⟩
    show inE _ (sealL key (packL 0 d [])) = _
    rw [show sealL key (packL 0 d []) = sealL (EP win' key m' (rAck a' d 0) (rDel d' a (nOut win m a) 0) (rOw ow' (nOut win m a) 0)).key (packL 0 d []) from rfl]
    rw [inE_pack _ 0 d [] (by decide) (by decide) (by omega) (by omega) Byt.nil (by decide) (Or.inr rfl), ep_only hra hd]
    rw [hra2]
    have e1 : rDel d' a (nOut win m a) (0 + 1) = rDel d' a (nOut win m a) 0 := by unfold rDel; rw [if_pos h0.1, if_pos h0.1]
    have e2 : rOw ow' (nOut win m a) (0 + 1) = rOw ow' (nOut win m a) 0 := by unfold rOw; rw [h0.1]; simp
    rw [e1, e2]
  · rw [if_neg h0] at hi ⊢
    have hn0 : nOut win m a ≠ 0 := by omega
    have e0 : ((List.range (nOut win m a)).map fun (i : Nat) => sealL key (packL (a + i + 1) d [((a + i : Nat) : Int)])).getD i [] = sealL key (packL ((a + i : Nat) + 1) d [((a + i : Nat) : Int)]) := by
      rw [List.getD_eq_getElem?_getD, List.getElem?_map, List.getElem?_range hi]
      simp only [Option.map_some, Option.getD_some]
      rfl
    rw [e0]
    have hs : a + i ≤ rDel d' a (nOut win m a) i := by unfold rDel; rw [if_neg hn0]; split <;> omega
    have e1 : max (rDel d' a (nOut win m a) i) (a + i + 1) = rDel d' a (nOut win m a) (i + 1) := by
      unfold rDel; rw [if_neg hn0, if_neg hn0, if_neg (show ¬ i + 1 = 0 by omega)]; split <;> omega
    have e2 : rOw ow' (nOut win m a) (i + 1) = true := by unfold rOw; simp; omega
    rw [show sealL key (packL ((a + i : Nat) + 1) d [((a + i : Nat) : Int)]) = sealL (EP win' key m' (rAck a' d i) (rDel d' a (nOut win m a) i) (rOw ow' (nOut win m a) i)).key (packL ((a + i : Nat) + 1) d [((a + i : Nat) : Int)]) from rfl]
    rw [inE_pack _ ((a + i : Nat) + 1) d [((a + i : Nat) : Int)] (by omega) (by omega) (by omega) (by omega) (fun x hx => by rw [List.mem_singleton] at hx; omega) (by simp) (Or.inl (by omega)), ep_data hra hd hs, e1, hra2, e2]
    refine ⟨_, rfl, ?_⟩
    by_cases hq : a + i = rDel d' a (nOut win m a) i
    · refine Or.inr ⟨by rw [if_pos hq, hq], ?_⟩
      rw [← e1]; omega
    · refine Or.inl ⟨by rw [if_neg hq], ?_⟩
      rw [← e1]; omega
/-- What holds of the numbers at the head of round r. -/
structure Prog (m0 m1 r a0 d0 : Nat) (ow0 : Bool) (a1 d1 : Nat) : Prop where
  x1 : a0 ≤ d1
  x2 : d1 ≤ m0
  x3 : a1 ≤ d0
  x4 : d0 ≤ m1
  y1 : min m0 r ≤ a0
  y2 : min m1 r ≤ d0
  y3 : min m1 (r - 1) ≤ a1
  z : a1 = d0 ∨ ow0 = true
theorem prog_start (m0 m1 : Nat) : Prog m0 m1 0 0 0 false 0 0 := by constructor <;> omega
/-- A round: the first end's Out at the second one, then the second one's at the first. -/
theorem prog_round {m0 m1 r a0 d0 a1 d1 : Nat} {ow0 ow1 : Bool} {w0 w1 : Int} (hw0 : 1 ≤ w0) (hw1 : 1 ≤ w1) (h : Prog m0 m1 r a0 d0 ow0 a1 d1) :
    ∀ a1' d1' ow1' a0' d0' ow0', a1' = rAck a1 d0 (kOut w0 m0 a0 ow0) → d1' = rDel d1 a0 (nOut w0 m0 a0) (kOut w0 m0 a0 ow0) → ow1' = rOw ow1 (nOut w0 m0 a0) (kOut w0 m0 a0 ow0) →
      a0' = rAck a0 d1' (kOut w1 m1 a1' ow1') → d0' = rDel d0 a1' (nOut w1 m1 a1') (kOut w1 m1 a1' ow1') → ow0' = rOw false (nOut w1 m1 a1') (kOut w1 m1 a1' ow1') →
      Prog m0 m1 (r + 1) a0' d0' ow0' a1' d1' := by
  obtain ⟨x1, x2, x3, x4, y1, y2, y3, z⟩ := h
  intro a1' d1' ow1' a0' d0' ow0' e1 e2 e3 e4 e5 e6
  have hn0 : nOut w0 m0 a0 = min (m0 - a0) w0.toNat := rfl
  have hn1 : nOut w1 m1 a1' = min (m1 - a1') w1.toNat := rfl
  have hw0' : 1 ≤ w0.toNat := by omega
  have hw1' : 1 ≤ w1.toNat := by omega
  generalize nOut w0 m0 a0 = n0 at *
  generalize nOut w1 m1 a1' = n1 at *
  have hk0 : kOut w0 m0 a0 ow0 = if n0 = 0 ∧ ow0 = true then 1 else n0 := by unfold kOut nOut; rw [← hn0]
  have hk1 : kOut w1 m1 a1' ow1' = if n1 = 0 ∧ ow1' = true then 1 else n1 := by unfold kOut nOut; rw [← hn1]
  rw [hk0] at e1 e2 e3
  rw [hk1] at e4 e5 e6
  clear hk0 hk1
  unfold rAck at e1 e4
  unfold rDel at e2 e5
  unfold rOw at e3 e6
  -- the first half
  have p1 : a1' = d0 := by
    rw [e1]
    by_cases hc : n0 = 0 ∧ ow0 = true
    · rw [if_pos hc, if_neg (by decide)]
    · rw [if_neg hc]
      by_cases hn : n0 = 0
      · rw [if_pos hn]
        exact z.resolve_right (fun h => hc ⟨hn, h⟩)
      · rw [if_neg hn]
  have p2 : d1' = (if n0 = 0 then d1 else max d1 (a0 + n0)) := by
    rw [e2]
    by_cases hn : n0 = 0
    · rw [if_pos hn, if_pos hn]
    · simp [hn]
  have p3 : 0 < n0 → ow1' = true := fun h => by rw [e3, if_neg (fun h2 => by have := h2.1; omega)]; simp [h]
  have p4 : a0' = (if n1 = 0 ∧ ow1' = false then a0 else d1') := by
    rw [e4]
    clear e1 e2 e3 e4 e5 e6 p1 p2 p3 hn1 hn0
    by_cases hn : n1 = 0
    · subst hn
      cases ow1' <;> simp
    · simp [hn]
  have p5 : d0' = (if n1 = 0 then d0 else max d0 (a1' + n1)) := by
    rw [e5]
    by_cases hn : n1 = 0
    · rw [if_pos hn, if_pos hn]
    · simp [hn]
  have p6 : 0 < n1 → ow0' = true := fun h => by rw [e6, if_neg (fun h2 => by have := h2.1; omega)]; simp [h]
  clear e1 e2 e3 e4 e5 e6
  have q1 : d1' ≤ m0 ∧ a0 ≤ d1' ∧ min m0 (r + 1) ≤ d1' := by
    rw [p2]
    split <;> omega
  have q2 : a0' ≤ d1' ∧ min m0 (r + 1) ≤ a0' := by
    rw [p4]
    split
    · rename_i hc
      have : n0 = 0 := by
        apply Classical.byContradiction
        intro h
        rw [p3 (by omega)] at hc
        exact absurd hc.2 (by simp)
      omega
    · omega
  have q3 : d0' ≤ m1 ∧ a1' ≤ d0' ∧ min m1 (r + 1) ≤ d0' := by
    rw [p5]
    split <;> omega
  refine ⟨q2.1, q1.1, q3.2.1, q3.1, q2.2, q3.2.2, by omega, ?_⟩
  by_cases hn : n1 = 0
  · left
    rw [p5, if_pos hn, p1]
  · exact Or.inr (p6 (by omega))
theorem prog_end {m0 m1 r a0 d0 a1 d1 : Nat} {ow0 : Bool} (h : Prog m0 m1 r a0 d0 ow0 a1 d1) (hr : max m0 m1 + 1 ≤ r) : a0 = m0 ∧ d0 = m1 ∧ a1 = m1 ∧ d1 = m0 := by
  obtain ⟨x1, x2, x3, x4, y1, y2, y3, z⟩ := h
  omega
/-- The numbers of both ends. -/
structure Num where
  a : Nat → Nat
  d : Nat → Nat
  ow : Nat → Bool
def EN (wN : Nat → Int) (key : Int) (mN : Nat → Nat) (N : Num) : Nat → EndS := fun j => EP (wN j) key (mN j) (N.a j) (N.d j) (N.ow j)
def kN (wN : Nat → Int) (mN : Nat → Nat) (N : Num) (k : Nat) : Nat := kOut (wN k) (mN k) (N.a k) (N.ow k)
/-- After i packets of the Out of end k. -/
def partN (wN : Nat → Int) (mN : Nat → Nat) (N : Num) (k i : Nat) : Num where
  a j := if j = k then N.a k else rAck (N.a j) (N.d k) i
  d j := if j = k then N.d k else rDel (N.d j) (N.a k) (nOut (wN k) (mN k) (N.a k)) i
  ow j := if j = k then false else rOw (N.ow j) (nOut (wN k) (mN k) (N.a k)) i
def halfN (wN : Nat → Int) (mN : Nat → Nat) (N : Num) (k : Nat) : Num := partN wN mN N k (kN wN mN N k)
def hN (wN : Nat → Int) (mN : Nat → Nat) (N : Num) : Nat → Num
  | 0 => N
  | 1 => halfN wN mN N 0
  | _ => halfN wN mN (halfN wN mN N 0) 1
theorem hN_succ (wN : Nat → Int) (mN : Nat → Nat) (N : Num) {k : Nat} (hk : k < 2) : hN wN mN N (k + 1) = halfN wN mN (hN wN mN N k) k := by
  rcases two_cases hk with rfl | rfl <;> rfl
def GoodN (mN : Nat → Nat) (N : Num) : Prop := ∀ j, j < 2 → N.a j ≤ N.d (1 - j) ∧ N.d (1 - j) ≤ mN j
def PrN (mN : Nat → Nat) (r : Nat) (N : Num) : Prop := Prog (mN 0) (mN 1) r (N.a 0) (N.d 0) (N.ow 0) (N.a 1) (N.d 1)
theorem PrN.good {mN : Nat → Nat} {r : Nat} {N : Num} (h : PrN mN r N) : GoodN mN N := fun j hj => by
  obtain ⟨x1, x2, x3, x4, _⟩ := h
  rcases two_cases hj with rfl | rfl
  · exact ⟨x1, x2⟩
  · exact ⟨x3, x4⟩
theorem good_part {wN : Nat → Int} {mN : Nat → Nat} {N : Num} (h : GoodN mN N) {k i : Nat} (hk : k < 2) (hi : i ≤ kN wN mN N k) : GoodN mN (partN wN mN N k i) := by
  have h0 := h k hk
  have h1 := h (1 - k) (by omega)
  rw [show 1 - (1 - k) = k by omega] at h1
  have hn : nOut (wN k) (mN k) (N.a k) ≤ mN k - N.a k := by unfold nOut; omega
  have hK : nOut (wN k) (mN k) (N.a k) ≠ 0 → i ≤ nOut (wN k) (mN k) (N.a k) := fun h => by
    unfold kN kOut at hi
    rw [if_neg (fun h2 => h h2.1)] at hi
    exact hi
  have e1 : (partN wN mN N k i).a k = N.a k := by unfold partN; simp
  have e2 : (partN wN mN N k i).d k = N.d k := by unfold partN; simp
  have e3 : (partN wN mN N k i).a (1 - k) = rAck (N.a (1 - k)) (N.d k) i := by unfold partN; simp only; rw [if_neg (by omega)]
  have e4 : (partN wN mN N k i).d (1 - k) = rDel (N.d (1 - k)) (N.a k) (nOut (wN k) (mN k) (N.a k)) i := by unfold partN; simp only; rw [if_neg (by omega)]
  have g1 : (partN wN mN N k i).a k ≤ (partN wN mN N k i).d (1 - k) ∧ (partN wN mN N k i).d (1 - k) ≤ mN k := by
    rw [e1, e4]
    generalize nOut (wN k) (mN k) (N.a k) = n at *
    unfold rDel
    split
    · omega
    · split
      · omega
      · have := hK (by omega)
        omega
  have g2 : (partN wN mN N k i).a (1 - k) ≤ (partN wN mN N k i).d k ∧ (partN wN mN N k i).d k ≤ mN (1 - k) := by
    rw [e3, e2]
    unfold rAck
    split <;> omega
  intro j hj
  by_cases hjk : j = k
  · subst hjk; exact g1
  · obtain rfl : j = 1 - k := by omega
    rw [show 1 - (1 - k) = k by omega]
    exact g2
theorem pr_round {wN : Nat → Int} {mN : Nat → Nat} {r : Nat} {N : Num} (hw : ∀ k, 1 ≤ wN k) (h : PrN mN r N) : PrN mN (r + 1) (hN wN mN N 2) := by
  have := prog_round (ow1 := N.ow 1) (hw 0) (hw 1) h _ _ _ _ _ _ rfl rfl rfl rfl rfl rfl
  exact this
theorem good_h {wN : Nat → Int} {mN : Nat → Nat} {N : Num} (h : GoodN mN N) : ∀ k, GoodN mN (hN wN mN N k)
  | 0 => h
  | 1 => good_part h (by decide) (Nat.le_refl _)
  | _ + 2 => good_part (good_part h (by decide) (Nat.le_refl _)) (by decide) (Nat.le_refl _)
theorem en_step {wN : Nat → Int} {key : Int} {mN : Nat → Nat} {N : Num} (hm : ∀ k, mN k ≤ 255) (h : GoodN mN N) {k i : Nat} (hk : k < 2) (hi : i < kN wN mN N k) :
    ∃ xs, inE (EN wN key mN (partN wN mN N k i) (1 - k)) ((outL (EN wN key mN N k)).getD i []) = ((xs, 0), EN wN key mN (partN wN mN N k (i + 1)) (1 - k))
      ∧ ((xs = [] ∧ (partN wN mN N k (i + 1)).d (1 - k) = (partN wN mN N k i).d (1 - k)) ∨ (xs = [[((partN wN mN N k i).d (1 - k) : Int)]] ∧ (partN wN mN N k (i + 1)).d (1 - k) = (partN wN mN N k i).d (1 - k) + 1)) := by
  have h0 := h k hk
  have h1 := h (1 - k) (by omega)
  rw [show 1 - (1 - k) = k by omega] at h1
  have m1 := hm k
  have m2 := hm (1 - k)
  have e : ∀ i, EN wN key mN (partN wN mN N k i) (1 - k) = EP (wN (1 - k)) key (mN (1 - k)) (rAck (N.a (1 - k)) (N.d k) i) (rDel (N.d (1 - k)) (N.a k) (nOut (wN k) (mN k) (N.a k)) i) (rOw (N.ow (1 - k)) (nOut (wN k) (mN k) (N.a k)) i) := fun i => by
    unfold EN partN
    simp only
    rw [if_neg (by omega), if_neg (by omega), if_neg (by omega)]
  have e4 : ∀ i, (partN wN mN N k i).d (1 - k) = rDel (N.d (1 - k)) (N.a k) (nOut (wN k) (mN k) (N.a k)) i := fun i => by unfold partN; simp only; rw [if_neg (by omega)]
  rw [e i, e (i + 1), e4 i, e4 (i + 1)]
  exact ep_step m1 (by omega) (by omega) h1.1 h0.1 i hi
theorem en_out {wN : Nat → Int} {key : Int} {mN : Nat → Nat} {N : Num} {k : Nat} : ∀ j, updE (EN wN key mN N) k (outE (EN wN key mN N k)) j = EN wN key mN (partN wN mN N k 0) j := fun j => by
  unfold updE
  by_cases hj : j = k
  · subst hj
    rw [if_pos rfl]
    unfold EN partN
    simp only [if_true]
    rfl
  · rw [if_neg hj]
    unfold EN partN
    simp only [if_neg hj]
    have e1 : rAck (N.a j) (N.d k) 0 = N.a j := rfl
    have e2 : rDel (N.d j) (N.a k) (nOut (wN k) (mN k) (N.a k)) 0 = N.d j := by unfold rDel; split <;> rfl
    have e3 : rOw (N.ow j) (nOut (wN k) (mN k) (N.a k)) 0 = N.ow j := by unfold rOw; simp
    rw [e1, e2, e3]
theorem en_in {wN : Nat → Int} {key : Int} {mN : Nat → Nat} {N : Num} {k i : Nat} (hk : k < 2) : ∀ j, j < 2 → updE (EN wN key mN (partN wN mN N k i)) (1 - k) (EN wN key mN (partN wN mN N k (i + 1)) (1 - k)) j = EN wN key mN (partN wN mN N k (i + 1)) j := fun j hj => by
  unfold updE
  by_cases h : j = 1 - k
  · subst h; rw [if_pos rfl]
  · rw [if_neg h]
    obtain rfl : j = k := by omega
    unfold EN partN
    simp only [if_true]
theorem en_in' {wN : Nat → Int} {key : Int} {mN : Nat → Nat} {N : Num} {k k2 i : Nat} (hk : k < 2) (h : k2 = 1 - k) (j : Nat) (hj : j < 2) : updE (EN wN key mN (partN wN mN N k i)) k2 (EN wN key mN (partN wN mN N k (i + 1)) k2) j = EN wN key mN (partN wN mN N k (i + 1)) j := by
  subst h
  exact en_in hk j hj
theorem en_pk {wN : Nat → Int} {key : Int} {mN : Nat → Nat} {N : Num} (hm : ∀ k, mN k ≤ 255) (h : GoodN mN N) {k i : Nat} (hk : k < 2) (hi : i < kN wN mN N k) : Byt ((outL (EN wN key mN N k)).getD i []) ∧ ((outL (EN wN key mN N k)).getD i []).length ≤ 1000 := by
  have h1 := h (1 - k) (by omega)
  rw [show 1 - (1 - k) = k by omega] at h1
  have m1 := hm k
  have m2 := hm (1 - k)
  have hn : nOut (wN k) (mN k) (N.a k) ≤ mN k - N.a k := by unfold nOut; omega
  have key : ∀ (s c : Int) (l : List Int), 0 ≤ s → s ≤ 1000 → 0 ≤ c → c ≤ 1000 → l.length ≤ 1 → Byt (sealL key (packL s c l)) ∧ (sealL key (packL s c l)).length ≤ 1000 := fun s c l a1 a2 a3 a4 a5 => by
    refine ⟨?_, ?_⟩
    · unfold sealL
      exact (packL_byt s c (by omega) (by omega) (by omega) (by omega) l (by omega)).app (sealB_byt key _)
    · rw [sealL_length]
      have := packL_le s c (by omega) (by omega) (by omega) (by omega) l (by omega)
      omega
  unfold EN
  rw [ep_outL]
  unfold kN kOut at hi
  by_cases h0 : nOut (wN k) (mN k) (N.a k) = 0 ∧ N.ow k = true
  · rw [if_pos h0] at hi ⊢
    obtain rfl : i = 0 := by omega
    exact key 0 _ [] (by omega) (by omega) (by omega) (by omega) (by simp)
  · rw [if_neg h0] at hi ⊢
    rw [List.getD_eq_getElem?_getD, List.getElem?_map, List.getElem?_range hi]
    exact key _ _ _ (by omega) (by omega) (by omega) (by omega) (by simp)
theorem part_d0 {wN : Nat → Int} {mN : Nat → Nat} {N : Num} {k : Nat} : (partN wN mN N k 0).d = N.d := by
  funext j
  unfold partN
  simp only
  by_cases hj : j = k
  · rw [if_pos hj, hj]
  · rw [if_neg hj]; unfold rDel; split <;> rfl
theorem part_dk {wN : Nat → Int} {mN : Nat → Nat} {N : Num} {k i : Nat} : (partN wN mN N k i).d k = N.d k := by unfold partN; simp
end Go.Proofs.Ytkgmoklifkojhaa
