/- The plain law of order: what an end delivers are the first messages that the other one sent. No condition. -/
import Derived.Test.YtkgmoklifkojhaaLkPlain
import Derived.Test.YtkgmoklifkojhaaLkK
set_option linter.unusedSimpArgs false
set_option linter.unusedVariables false
namespace Go.Proofs.Ytkgmoklifkojhaa
open Go.RowKit
/-- An end that sent S, to which T was sent: a acknowledged, d delivered; n: calls of In so far. -/
structure EOrd (win key : Int) (S T : List (List Int)) (E : EndS) (a d n : Nat) : Prop where
  wi : E.window = win
  ky : E.key = key
  wt : E.waiting = S.drop a
  ac : E.acked = a
  al : a ≤ S.length
  dl : E.delivered = d
  dT : d ≤ T.length
  he : ∀ i m, E.held i = some m → ∃ u : Nat, i = (u : Int) + 1 ∧ u < T.length ∧ m = T.getD u []
  fo : E.forged = 0
  ct : E.cnt ≤ E.tot
  tt : E.tot ≤ n
theorem eord_new (win key : Int) : EOrd win key [] [] (newE win key) 0 0 0 := by
  constructor <;> simp [newE]
theorem EOrd.wlen {win key : Int} {S T : List (List Int)} {E : EndS} {a d n : Nat} (h : EOrd win key S T E a d n) : E.waiting.length = S.length - a := by rw [h.wt, List.length_drop]
/-- More messages of the other end. -/
theorem EOrd.more {win key : Int} {S T : List (List Int)} {E : EndS} {a d n : Nat} (h : EOrd win key S T E a d n) (x : List Int) : EOrd win key S (T ++ [x]) E a d n :=
  ⟨h.wi, h.ky, h.wt, h.ac, h.al, h.dl, by have := h.dT; simp; omega, fun i m hi => by
    obtain ⟨u, h1, h2, h3⟩ := h.he i m hi
    refine ⟨u, h1, by simp; omega, ?_⟩
    rw [h3, List.getD_eq_getElem?_getD, List.getD_eq_getElem?_getD, List.getElem?_append_left h2], h.fo, h.ct, h.tt⟩
theorem EOrd.sent {win key : Int} {S T : List (List Int)} {E : EndS} {a d n : Nat} (h : EOrd win key S T E a d n) (x : List Int) : EOrd win key (S ++ [x]) T (sendE E x) a d n :=
  ⟨h.wi, h.ky, by
    show E.waiting ++ [x] = _
    rw [h.wt, List.drop_append_of_le_length h.al], h.ac, by have := h.al; simp; omega, h.dl, h.dT, h.he, h.fo, h.ct, h.tt⟩
theorem EOrd.out {win key : Int} {S T : List (List Int)} {E : EndS} {a d n : Nat} (h : EOrd win key S T E a d n) : EOrd win key S T (outE E) a d n :=
  ⟨h.wi, h.ky, h.wt, h.ac, h.al, h.dl, h.dT, h.he, h.fo, h.ct, h.tt⟩
theorem EOrd.late {win key : Int} {S T : List (List Int)} {E : EndS} {a d n m : Nat} (h : EOrd win key S T E a d n) (hm : n ≤ m) : EOrd win key S T E a d m :=
  ⟨h.wi, h.ky, h.wt, h.ac, h.al, h.dl, h.dT, h.he, h.fo, h.ct, Nat.le_trans h.tt hm⟩
/-- A packet of the end that sent S and has delivered d. -/
def PkO (key : Int) (S : List (List Int)) (d : Nat) (l : List Int) : Prop :=
  ∃ (s c : Nat) (m : List Int), l = sealL key (packL s c m) ∧ c ≤ d ∧ ((s = 0 ∧ m = []) ∨ ∃ u, s = u + 1 ∧ u < S.length ∧ m = S.getD u [])
theorem PkO.mono {key : Int} {S : List (List Int)} {d d' : Nat} {l : List Int} (h : PkO key S d l) (hd : d ≤ d') : PkO key S d' l := by
  obtain ⟨s, c, m, h1, h2, h3⟩ := h
  exact ⟨s, c, m, h1, Nat.le_trans h2 hd, h3⟩
theorem PkO.more {key : Int} {S : List (List Int)} {d : Nat} {l : List Int} (h : PkO key S d l) (x : List Int) : PkO key (S ++ [x]) d l := by
  obtain ⟨s, c, m, h1, h2, h3⟩ := h
  refine ⟨s, c, m, h1, h2, h3.imp id ?_⟩
  rintro ⟨u, e1, e2, e3⟩
  exact ⟨u, e1, by simp; omega, by rw [e3, List.getD_eq_getElem?_getD, List.getD_eq_getElem?_getD, List.getElem?_append_left e2]⟩
theorem getD_drop {α : Type} (l : List α) (a i : Nat) (x : α) : (l.drop a).getD i x = l.getD (a + i) x := by
  rw [List.getD_eq_getElem?_getD, List.getD_eq_getElem?_getD, List.getElem?_drop]
theorem EOrd.pk {win key : Int} {S T : List (List Int)} {E : EndS} {a d n : Nat} (h : EOrd win key S T E a d n) : ∀ j, j < (outL E).length → PkO key S d ((outL E).getD j []) := by
  intro j hj
  have hk := h.wlen
  have hal := h.al
  unfold outL at hj ⊢
  by_cases hc : outK E = 0 ∧ E.owing = true
  · rw [if_pos hc] at hj ⊢
    obtain rfl : j = 0 := by simpa using hj
    refine ⟨0, d, [], ?_, Nat.le_refl _, Or.inl ⟨rfl, rfl⟩⟩
    rw [List.getD_cons_zero, h.ky, h.dl]
    rfl
  · rw [if_neg hc] at hj ⊢
    rw [outTo_length] at hj
    have hjw : j < S.length - a := by unfold outK at hj; omega
    refine ⟨a + j + 1, d, S.getD (a + j) [], ?_, Nat.le_refl _, Or.inr ⟨a + j, rfl, by omega, rfl⟩⟩
    unfold outTo
    rw [List.getD_eq_getElem?_getD, List.getElem?_map, List.getElem?_range hj]
    simp only [Option.map_some, Option.getD_some]
    unfold pktE
    rw [h.ky, h.dl, h.ac, h.wt, getD_drop]
    rfl
/-- Deliver: the next messages. -/
theorem ord_dlv {win key : Int} {S T : List (List Int)} {a n : Nat} : ∀ (k : Nat) (E : EndS) (acc : List (List Int)) (d : Nat), EOrd win key S T E a d n → ∃ j, (deliverN k E acc).1 = acc ++ (T.drop d).take j ∧ d + j ≤ T.length ∧ EOrd win key S T (deliverN k E acc).2 a (d + j) n
  | 0, E, acc, d, h => ⟨0, by simp [deliverN], h.dT, h⟩
  | k + 1, E, acc, d, h => by
    unfold deliverN
    cases hh : E.held (E.delivered + 1) with
    | none => exact ⟨0, by simp, h.dT, h⟩
    | some m =>
      obtain ⟨u, h1, h2, h3⟩ := h.he _ _ hh
      have hu : u = d := by have := h.dl; omega
      subst hu
      have hs : EOrd win key S T (stepD E) a (u + 1) n := ⟨h.wi, h.ky, h.wt, h.ac, h.al, by show E.delivered + 1 = _; rw [h.dl]; rfl, h2, fun i x hi => by
        have hi2 : (if i = E.delivered + 1 then none else E.held i) = some x := hi
        split at hi2
        · cases hi2
        · exact h.he i x hi2, h.fo, by show E.cnt - 1 ≤ E.tot; have := h.ct; omega, h.tt⟩
      obtain ⟨j, e1, e2, e3⟩ := ord_dlv k (stepD E) (acc ++ [m]) (u + 1) hs
      refine ⟨j + 1, ?_, by omega, ?_⟩
      · show (deliverN k (stepD E) (acc ++ [m])).1 = _
        rw [e1, List.append_assoc, List.drop_eq_getElem_cons h2, List.take_succ_cons, h3, List.getD_eq_getElem?_getD, List.getElem?_eq_getElem h2]
        rfl
      · rw [show u + (j + 1) = u + 1 + j by omega]
        exact e3
/-- In of a packet of the other end, which has delivered d' of the messages sent here. -/
theorem ord_in {win key : Int} {S T : List (List Int)} {E : EndS} {a d n d' : Nat} (h : EOrd win key S T E a d n) (hd' : d' ≤ S.length) (hT : ∀ u, u < T.length → Byt (T.getD u []) ∧ (T.getD u []).length ≤ 65536) (hTl : T.length ≤ 1000000) (hSl : S.length ≤ 1000000) {l : List Int} (hp : PkO key T d' l) :
    ∃ j a' E', inE E l = (((T.drop d).take j, 0), E') ∧ d + j ≤ T.length ∧ EOrd win key S T E' a' (d + j) (n + 1) ∧ a ≤ a' ∧ a' ≤ max a d' := by
  obtain ⟨s, c, m, rfl, hc, hm⟩ := hp
  have hk := h.wlen
  have hal := h.al
  have hmB : Byt m ∧ m.length ≤ 65536 := by
    rcases hm with ⟨_, rfl⟩ | ⟨u, _, hu, rfl⟩
    · exact ⟨Byt.nil, by simp⟩
    · exact hT u hu
  have hsl : s ≤ T.length := by
    rcases hm with ⟨rfl, _⟩ | ⟨u, rfl, hu, _⟩ <;> omega
  have e0 : inE E (sealL key (packL s c m)) = pktIn E s c m := by
    rw [← h.ky]
    exact inE_pack E s c m (by omega) (by omega) (by omega) (by omega) hmB.1 hmB.2 (by
      rcases hm with ⟨_, rfl⟩ | ⟨u, rfl, _, _⟩
      · exact Or.inr rfl
      · exact Or.inl (by omega))
  rw [e0]
  have hack : EOrd win key S T (ackE E c) (max a c) d (n + 1) := by
    unfold ackE
    split
    · rename_i h1
      have hac := h.ac
      have e1 : ((c : Int) - E.acked).toNat = c - a := by omega
      have e2 : max a c = c := by omega
      rw [e2]
      refine ⟨h.wi, h.ky, ?_, rfl, by omega, h.dl, h.dT, h.he, h.fo, h.ct, by have := h.tt; show E.tot ≤ n + 1; omega⟩
      show E.waiting.drop ((c : Int) - E.acked).toNat = S.drop c
      rw [e1, h.wt, List.drop_drop, show a + (c - a) = c by omega]
    · rename_i h1
      have hac := h.ac
      rw [show max a c = a by omega]
      exact h.late (Nat.le_succ n)
  unfold pktIn
  split
  · exact ⟨0, a, E, by simp, h.dT, h.late (Nat.le_succ n), Nat.le_refl _, by omega⟩
  · rename_i hn1
    split
    · exact ⟨0, max a c, ackE E c, by simp, h.dT, hack, by omega, by omega⟩
    · rename_i hs0
      have how : EOrd win key S T (owesE (ackE E c)) (max a c) d (n + 1) := ⟨hack.wi, hack.ky, hack.wt, hack.ac, hack.al, hack.dl, hack.dT, hack.he, hack.fo, hack.ct, hack.tt⟩
      have htot : (owesE (ackE E c)).tot ≤ n := by
        have h1 : (ackE E c).tot = E.tot := by unfold ackE; split <;> rfl
        show (ackE E c).tot ≤ n
        rw [h1]; exact h.tt
      have hput : EOrd win key S T (putE (owesE (ackE E c)) s m) (max a c) d (n + 1) := by
        unfold putE
        split
        · refine ⟨how.wi, how.ky, how.wt, how.ac, how.al, how.dl, how.dT, fun i x hi => ?_, how.fo, ?_, ?_⟩
          · have hi2 : (if i = (s : Int) then some m else (owesE (ackE E c)).held i) = some x := hi
            split at hi2
            · rename_i hi3
              injection hi2 with hi2
              subst hi2
              rcases hm with ⟨h1, _⟩ | ⟨u, h1, h2, h3⟩
              · omega
              · exact ⟨u, by omega, h2, h3⟩
            · exact how.he i x hi2
          · have := how.ct
            show (owesE (ackE E c)).cnt + 1 ≤ (owesE (ackE E c)).tot + 1
            omega
          · show (owesE (ackE E c)).tot + 1 ≤ n + 1
            omega
        · exact how
      obtain ⟨j, e1, e2, e3⟩ := ord_dlv (putE (owesE (ackE E c)) s m).cnt (putE (owesE (ackE E c)) s m) [] d hput
      refine ⟨j, max a c, _, ?_, e2, e3, by omega, by omega⟩
      show (((deliverN (putE (owesE (ackE E c)) s m).cnt (putE (owesE (ackE E c)) s m) []).1, (0 : Int)), (deliverN (putE (owesE (ackE E c)) s m).cnt (putE (owesE (ackE E c)) s m) []).2) = _
      rw [e1, List.nil_append]
/-- The state of the law: ends E, messages sent S, acknowledged a, delivered d, packets pk tos the ends tos; n rounds. -/
structure OrdR (win : Nat → Int) (key : Int) (E : Nat → EndS) (S : Nat → List (List Int)) (a d : Nat → Nat) (pk : List (List Int)) (tos : List Nat) (n : Nat) : Prop where
  e : ∀ k, k < 2 → EOrd (win k) key (S k) (S (1 - k)) (E k) (a k) (d k) n
  ad : ∀ k, k < 2 → a k ≤ d (1 - k)
  sl : ∀ k, k < 2 → (S k).length ≤ n
  sb : ∀ k, k < 2 → ∀ u, u < (S k).length → Byt ((S k).getD u []) ∧ ((S k).getD u []).length = 2
  tl : tos.length = pk.length
  tb : ∀ j, j < pk.length → tos.getD j 0 < 2
  pp : ∀ j, j < pk.length → PkO key (S (1 - tos.getD j 0)) (d (1 - tos.getD j 0)) (pk.getD j [])
  pn : pk.length ≤ 16 * n
theorem ordr_start (win : Nat → Int) (key : Int) : OrdR win key (fun k => newE (win k) key) (fun _ => []) (fun _ => 0) (fun _ => 0) [] [] 0 :=
  ⟨fun k _ => eord_new (win k) key, fun _ _ => Nat.le_refl _, fun _ _ => Nat.le_refl _, fun _ _ u hu => by simp at hu, rfl, fun j hj => by simp at hj, fun j hj => by simp at hj, by simp⟩
section
variable {win : Nat → Int} {key : Int} {E : Nat → EndS} {S : Nat → List (List Int)} {a d : Nat → Nat} {pk : List (List Int)} {tos : List Nat} {n : Nat}
theorem OrdR.late (R : OrdR win key E S a d pk tos n) : OrdR win key E S a d pk tos (n + 1) :=
  ⟨fun k hk => (R.e k hk).late (Nat.le_succ n), R.ad, fun k hk => Nat.le_succ_of_le (R.sl k hk), R.sb, R.tl, R.tb, R.pp, by have := R.pn; omega⟩
theorem getD_snoc_lt {α : Type} {l : List α} {x y : α} {j : Nat} (h : j < l.length) : (l ++ [x]).getD j y = l.getD j y := by
  rw [List.getD_eq_getElem?_getD, List.getD_eq_getElem?_getD, List.getElem?_append_left h]
theorem getD_snoc_eq {α : Type} {l : List α} {x y : α} : (l ++ [x]).getD l.length y = x := by
  rw [List.getD_eq_getElem?_getD, List.getElem?_append_right (Nat.le_refl _)]; simp
theorem OrdR.send (R : OrdR win key E S a d pk tos n) {k : Nat} (hk : k < 2) {m : List Int} (hm : Byt m ∧ m.length = 2) :
    OrdR win key (updE E k (sendE (E k) m)) (updE S k (S k ++ [m])) a d pk tos (n + 1) := by
  refine ⟨fun j hj => ?_, R.ad, fun j hj => ?_, fun j hj u hu => ?_, R.tl, R.tb, fun j hj => ?_, by have := R.pn; omega⟩
  · by_cases hjk : j = k
    · subst hjk
      rw [updE_same, updE_same, updE_ne _ _ (by omega)]
      exact ((R.e j hj).sent m).late (Nat.le_succ n)
    · have e : 1 - j = k := by omega
      rw [updE_ne _ _ hjk, updE_ne _ _ hjk, e, updE_same]
      have := (R.e j hj).more m
      rw [e] at this
      exact this.late (Nat.le_succ n)
  · by_cases hjk : j = k
    · subst hjk; rw [updE_same]; have := R.sl j hj; simp; omega
    · rw [updE_ne _ _ hjk]; exact Nat.le_succ_of_le (R.sl j hj)
  · by_cases hjk : j = k
    · subst hjk
      rw [updE_same] at hu ⊢
      by_cases h : u < (S j).length
      · rw [getD_snoc_lt h]; exact R.sb j hj u h
      · obtain rfl : u = (S j).length := by simp at hu; omega
        rw [getD_snoc_eq]; exact hm
    · rw [updE_ne _ _ hjk] at hu ⊢; exact R.sb j hj u hu
  · have := R.pp j hj
    by_cases hjk : 1 - tos.getD j 0 = k
    · rw [hjk] at this ⊢; rw [updE_same]; exact this.more m
    · rw [updE_ne _ _ hjk]; exact this
/-- After j packets of an Out of end k. -/
theorem OrdR.outs (R : OrdR win key E S a d pk tos n) {k : Nat} (hk : k < 2) (hw : win k ≤ 16) (j : Nat) (hj : j ≤ (outL (E k)).length) :
    OrdR win key (updE E k (outE (E k))) S a d (pk ++ (outL (E k)).take j) (tos ++ List.replicate j (1 - k)) (n + 1) := by
  have hlen : (outL (E k)).length ≤ 16 := by
    unfold outL
    split
    · simp
    · rw [outTo_length]; unfold outK; have := (R.e k hk).wi; omega
  have htl : ((outL (E k)).take j).length = j := by rw [List.length_take]; omega
  refine ⟨fun i hi => ?_, R.ad, fun i hi => Nat.le_succ_of_le (R.sl i hi), R.sb, by simp [R.tl]; omega, fun i hi => ?_, fun i hi => ?_, by have := R.pn; simp; omega⟩
  · by_cases hik : i = k
    · subst hik; rw [updE_same]; exact (R.e i hi).out.late (Nat.le_succ n)
    · rw [updE_ne _ _ hik]; exact (R.e i hi).late (Nat.le_succ n)
  · rw [List.length_append, htl] at hi
    rw [List.getD_eq_getElem?_getD]
    by_cases h : i < pk.length
    · rw [List.getElem?_append_left (by rw [R.tl]; exact h), ← List.getD_eq_getElem?_getD]; exact R.tb i h
    · rw [List.getElem?_append_right (by rw [R.tl]; omega), List.getElem?_replicate, if_pos (by rw [R.tl]; omega)]; simp; omega
  · rw [List.length_append, htl] at hi
    by_cases h : i < pk.length
    · have e1 : (tos ++ List.replicate j (1 - k)).getD i 0 = tos.getD i 0 := by
        rw [List.getD_eq_getElem?_getD, List.getElem?_append_left (by rw [R.tl]; exact h), ← List.getD_eq_getElem?_getD]
      have e2 : (pk ++ (outL (E k)).take j).getD i [] = pk.getD i [] := by
        rw [List.getD_eq_getElem?_getD, List.getElem?_append_left h, ← List.getD_eq_getElem?_getD]
      rw [e1, e2]; exact R.pp i h
    · have e1 : (tos ++ List.replicate j (1 - k)).getD i 0 = 1 - k := by
        rw [List.getD_eq_getElem?_getD, List.getElem?_append_right (by rw [R.tl]; omega), List.getElem?_replicate, if_pos (by rw [R.tl]; omega)]; rfl
      have e2 : (pk ++ (outL (E k)).take j).getD i [] = (outL (E k)).getD (i - pk.length) [] := by
        rw [List.getD_eq_getElem?_getD, List.getElem?_append_right (by omega), List.getElem?_take, if_pos (by omega), ← List.getD_eq_getElem?_getD]
      rw [e1, e2, show 1 - (1 - k) = k by omega]
      exact (R.e k hk).pk _ (by omega)
/-- In of packet j at its end. -/
theorem OrdR.in (R : OrdR win key E S a d pk tos n) (hn : n ≤ 1000) {j : Nat} (hj : j < pk.length) {t : Nat} (ht : t = tos.getD j 0) :
    ∃ q E' a', inE (E t) (pk.getD j []) = ((((S (1 - t)).drop (d t)).take q, 0), E') ∧ d t + q ≤ (S (1 - t)).length ∧ OrdR win key (updE E t E') S (updE a t a') (updE d t (d t + q)) pk tos (n + 1) := by
  have ht2 : t < 2 := by rw [ht]; exact R.tb j hj
  have e := R.e t ht2
  have e' := R.e (1 - t) (by omega)
  have hp := R.pp j hj
  rw [← ht] at hp
  have hl1 := R.sl (1 - t) (by omega)
  have hl2 := R.sl t ht2
  have hdT := e'.dT
  rw [show 1 - (1 - t) = t by omega] at hdT
  obtain ⟨q, a', E', h1, h2, h3, h4, h5⟩ := ord_in e hdT (fun u hu => by have := R.sb (1 - t) (by omega) u hu; exact ⟨this.1, by rw [this.2]; omega⟩) (by omega) (by omega) hp
  refine ⟨q, E', a', h1, h2, fun i hi => ?_, fun i hi => ?_, fun i hi => Nat.le_succ_of_le (R.sl i hi), R.sb, R.tl, R.tb, fun i hi => ?_, by have := R.pn; omega⟩
  · by_cases hit : i = t
    · subst hit; rw [updE_same, updE_same, updE_same]; exact h3
    · rw [updE_ne _ _ hit, updE_ne _ _ hit, updE_ne _ _ hit]; exact (R.e i hi).late (Nat.le_succ n)
  · by_cases hit : i = t
    · subst hit; rw [updE_same, updE_ne _ _ (by omega)]
      have := R.ad i hi
      omega
    · have e1 : 1 - i = t := by omega
      rw [updE_ne _ _ hit, e1, updE_same]
      have := R.ad i hi
      rw [e1] at this
      omega
  · have := R.pp i hi
    by_cases hit : 1 - tos.getD i 0 = t
    · rw [hit] at this ⊢; rw [updE_same]; exact this.mono (by omega)
    · rw [updE_ne _ _ hit]; exact this
/-- What the law asks at a round's end. -/
theorem OrdR.asks (R : OrdR win key E S a d pk tos n) {k : Nat} (hk : k < 2) : (E k).waiting.length ≤ (S k).length ∧ (S k).length - d (1 - k) ≤ (E k).waiting.length ∧ d (1 - k) ≤ (S k).length ∧ (E k).forged = 0 := by
  have e := R.e k hk
  have h1 := e.wlen
  have h2 := e.al
  have h3 := R.ad k hk
  have h4 := (R.e (1 - k) (by omega)).dT
  rw [show 1 - (1 - k) = k by omega] at h4
  exact ⟨by omega, by omega, h4, e.fo⟩
end
end Go.Proofs.Ytkgmoklifkojhaa
