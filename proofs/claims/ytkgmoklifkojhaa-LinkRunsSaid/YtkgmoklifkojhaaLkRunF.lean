/- The reference's In. Conditions: numbers below a bound. -/
import Derived.Test.YtkgmoklifkojhaaLkRunD
import Derived.Test.YtkgmoklifkojhaaFlowV
set_option linter.unusedSimpArgs false
set_option linter.unusedVariables false
namespace Go.Proofs.Ytkgmoklifkojhaa
open Go.RowKit
def keysR (R : RefS) : List Int := R.held.map (·.1)
def ackR (R : RefS) (a : Int) : RefS := { R with acked := max R.acked a }
def owesR (R : RefS) : RefS := { R with owing := true }
def putR (R : RefS) (s : Int) (m : List Int) : RefS := { R with held := R.held ++ [(s, m)] }
def stepR (R : RefS) (i : Nat) : RefS := { R with held := R.held.take i ++ R.held.drop (i + 1), got := R.got + 1 }
def rdel : Nat → RefS → List (List Int) → List (List Int) × RefS
  | 0, R, out => (out, R)
  | k + 1, R, out => if rfind (keysR R) (R.got + 1) < 0 then (out, R) else rdel k (stepR R (rfind (keysR R) (R.got + 1)).toNat) (out ++ [(R.held.getD (rfind (keysR R) (R.got + 1)).toNat (0, [])).2])
def pktR (R : RefS) (s a : Int) (m : List Int) : (List (List Int) × Int) × RefS :=
  if (R.sent.length : Int) < a ∨ R.got + 16 < s then (([], 0), R)
  else if s = 0 then (([], 0), ackR R a)
  else if s ≤ R.got ∨ 0 ≤ rfind (keysR R) s then (([], 0), owesR (ackR R a))
  else (((rdel (R.held.length + 1) (putR (owesR (ackR R a)) s m) []).1, 0), (rdel (R.held.length + 1) (putR (owesR (ackR R a)) s m) []).2)
def inR (R : RefS) (x : List Int) : (List (List Int) × Int) × RefS :=
  if (openL R.key x).2 = 0 then
    match readL (openL R.key x).1 with
    | none => (([], 2), R)
    | some (s, a, m) => pktR R s a m
  else (([], (openL R.key x).2), if (openL R.key x).2 = 9 then { R with forged := R.forged + 1 } else R)
def RInPost (Mu Ft : Nat → Prop) (w : World) (p : Nat) (R : (List (List Int) × Int) × RefS) (e : Ending) (w' : World) : Prop :=
  ∃ OA oc k ovs, e = .returned (.tuple #[.slice OA k oc, .int .i64 R.1.2]) ∧ R.1.1.length = k ∧ w'.ownsRow w.heap.size 33 1 (.slice OA k oc) k ovs ∧ ∃ Ft', Turn Ft Ft' w w' ∧ (∀ b, Ft' b → b < w'.heap.size) ∧ (∀ b, (Value.slice OA k oc).ownBlock = some b → ¬ Ft' b) ∧ Msgs (mor Mu Ft') w' ovs R.1.1 ∧ RefO p R.2 (mor Mu Ft') Ft' w'
theorem rin_nil {Mu Ft : Nat → Prop} {w w' : World} {p : Nat} {r : Int} {R : RefS} {SV HV : Value} {vs : List Value} {hs : List (Int × Value)} (I : IsRef (mnew Mu w) w' p R SV HV vs hs) (hk : Kept Ft w w') (hF : ∀ b, Ft b → Mu b) (hft : ∀ b, ftR p SV HV b → Ft b) : RInPost Mu Ft w p (([], r), R) (.returned (.tuple #[.slice none 0 0, .int .i64 r])) w' := by
  obtain ⟨Ft', h1, h2, _, h3⟩ := I.turn' hk hF (fun b hb => Or.inl (hft b hb))
  exact ⟨none, 0, 0, [], rfl, rfl, World.ownsRow_nil _ _ _ _, Ft', h1, h2, fun b hb => (by cases hb), Msgs.nil _ _, h3⟩
theorem rin_ext {Mu Ft : Nat → Prop} {w w' : World} {p : Nat} {r : Int} {R : RefS} {SV HV : Value} {vs : List Value} {hs : List (Int × Value)} (I : IsRef Mu w p R SV HV vs hs) (hE : Ext w w') (hF : ∀ b, Ft b → Mu b) (hft : ∀ b, ftR p SV HV b → Ft b) : RInPost Mu Ft w p (([], r), R) (.returned (.tuple #[.slice none 0 0, .int .i64 r])) w' :=
  rin_nil (I.to_new.ext hE) (Kept.of_ext hE) hF hft
/-- A store in a field that is a number. -/
theorem IsRef.num {M : Nat → Prop} {w : World} {p : Nat} {R R' : RefS} {SV HV : Value} {vs : List Value} {hs : List (Int × Value)} (I : IsRef M w p R SV HV vs hs) (hp : M p) (j : Nat) (u : Value) (hc : (refC R SV HV).set j u = refC R' SV HV) (hs' : R'.sent = R.sent) (hh : R'.held = R.held) (ok : RefOk R') :
    IsRef M (w.setCell ⟨p, j, none⟩ u) p R' SV HV vs hs :=
  I.put (Kept.refl _ _) hp j u hc (by rw [hs']; exact I.row) (by rw [hs']; exact I.msgs) (by rw [hh]; exact I.hrow) (by rw [hh]; exact I.hks) (by rw [hh]; exact I.hms) ok
set_option maxHeartbeats 4000000 in
set_option maxRecDepth 100000 in
theorem rin_forged (Mu Ft : Nat → Prop) (p : Nat) (R : RefS) (x : List Int) (A : Option Addr) (n c : Nat) (w : World) (hE : RefO p R Mu Ft w) (hF : ∀ b, Ft b → Mu b) (hml : ∀ b, Mu b → b < w.heap.size) (hl : Rd w w.heap.size A n (u8s x)) (hby : Byt x) (hn : n ≤ 1000000000) (hnc : n ≤ c) (hc : c ≤ 9223372036854775807) (hf : R.forged < 1000000000) (hop : openL R.key x = ([], 9)) :
    Calls Try.prog 20 #[.pointer (some ⟨p, 0, none⟩), .slice A n c] w fun e w' => RInPost Mu Ft w p (inR R x) e w' := by
  have hR : inR R x = (([], 9), { R with forged := R.forged + 1 }) := by unfold inR; rw [hop]; rfl
  rw [hR]
  obtain ⟨SV, HV, vs, hs, I, hft⟩ := hE
  have ok := I.ok
  have HI := Lib.hid I; have HL := Lib.hid hl; have HBY := Lib.hid hby; have HFT := Lib.hid hft; have HFM := Lib.hid hF; have HML := Lib.hid hml
  have HP : Hid (mnew Mu w p) := Lib.hid (Or.inl (hF p (hft p (Or.inl rfl))))
  obtain ⟨ky, hky⟩ : ∃ k, k = R.key := ⟨_, rfl⟩
  have hc1 : w.cell? ⟨p, 1, none⟩ = some (.int .u64 ky) := by rw [hky]; exact I.blk.cell 1
  have k0 : 0 ≤ ky := by rw [hky]; exact ok.k0
  have k1 : ky ≤ 18446744073709551615 := by rw [hky]; exact ok.k1
  have HKY := Lib.hid hky
  rw [← hky] at hop
  have HOP := Lib.hid hop
  obtain ⟨fg, hfg⟩ : ∃ k, k = R.forged := ⟨_, rfl⟩
  have f0 : 0 ≤ fg := by rw [hfg]; exact ok.f0
  have f1 : fg < 1000000000 := by rw [hfg]; exact hf
  have HFG := Lib.hid hfg; have HF := Lib.hid hf
  have HC7 : Hid (∀ W, Ext w W → W.cell? ⟨p, 7, none⟩ = some (.int .i64 fg) ∧ W.frozen? ⟨p, 7, none⟩ = false) := Lib.hid (fun W hW => ⟨by rw [hfg]; exact (I.blk.ext hW).cell 7, (I.blk.ext hW).frozen 7⟩)
  clear I hl hby ok hky hfg hf hop hR hft hF hml
  go_enter Try.func20, Try.ntmps20
  go_wp2_with (go_at_call 30; (with_reducible refine (ropen_any ky k0 k1 x A n c w HL.out HBY.out hn hnc hc).mono ?_); rintro e w1 ⟨⟨A1, c1, rfl, ⟨hcA, hcB⟩, hr1⟩, hE1⟩; rw [HOP.out] at hcA hr1 ⊢; have E1 := Lib.hid hE1; have HR1 := Lib.hid hr1; have HC1 := Lib.hid (And.intro hcA hcB); obtain ⟨cc7, ff7⟩ := HC7.out w1 E1.out; clear hcA hcB hr1 hE1)
  go_ret2
  rw [HFG.out]
  refine rin_nil (R := { R with forged := R.forged + 1 }) ((HI.out.to_new.ext E1.out).num HP.out 7 _ rfl rfl rfl ?_) ((Kept.of_ext E1.out).trans (Kept.setCell (p := ⟨p, 7, none⟩) w1 (HFT.out p (Or.inl rfl)) _)) HFM.out HFT.out
  obtain ⟨o1, o2, o3, o4, o5, o6, o7, o8, o9, o10, o11, o12, o13⟩ := HI.out.ok
  have := HF.out
  exact ⟨o1, o2, o3, o4, o5, o6, o7, o8, o9, (by simp only; omega), (by simp only; omega), o12, o13⟩
set_option maxHeartbeats 4000000 in
set_option maxRecDepth 100000 in
theorem rin_short (Mu Ft : Nat → Prop) (p : Nat) (R : RefS) (x : List Int) (A : Option Addr) (n c : Nat) (w : World) (hE : RefO p R Mu Ft w) (hF : ∀ b, Ft b → Mu b) (hml : ∀ b, Mu b → b < w.heap.size) (hl : Rd w w.heap.size A n (u8s x)) (hby : Byt x) (hn : n ≤ 1000000000) (hnc : n ≤ c) (hc : c ≤ 9223372036854775807) (hop : openL R.key x = ([], 2)) :
    Calls Try.prog 20 #[.pointer (some ⟨p, 0, none⟩), .slice A n c] w fun e w' => RInPost Mu Ft w p (inR R x) e w' := by
  have hR : inR R x = (([], 2), R) := by unfold inR; rw [hop]; rfl
  rw [hR]
  obtain ⟨SV, HV, vs, hs, I, hft⟩ := hE
  have ok := I.ok
  have HI := Lib.hid I; have HL := Lib.hid hl; have HBY := Lib.hid hby; have HFT := Lib.hid hft; have HFM := Lib.hid hF; have HML := Lib.hid hml
  have HP : Hid (mnew Mu w p) := Lib.hid (Or.inl (hF p (hft p (Or.inl rfl))))
  obtain ⟨ky, hky⟩ : ∃ k, k = R.key := ⟨_, rfl⟩
  have hc1 : w.cell? ⟨p, 1, none⟩ = some (.int .u64 ky) := by rw [hky]; exact I.blk.cell 1
  have k0 : 0 ≤ ky := by rw [hky]; exact ok.k0
  have k1 : ky ≤ 18446744073709551615 := by rw [hky]; exact ok.k1
  have HKY := Lib.hid hky
  rw [← hky] at hop
  have HOP := Lib.hid hop
  clear I hl hby ok hky hop hR hft hF hml
  go_enter Try.func20, Try.ntmps20
  go_wp2_with (go_at_call 30; (with_reducible refine (ropen_any ky k0 k1 x A n c w HL.out HBY.out hn hnc hc).mono ?_); rintro e w1 ⟨⟨A1, c1, rfl, ⟨hcA, hcB⟩, hr1⟩, hE1⟩; rw [HOP.out] at hcA hr1 ⊢; have E1 := Lib.hid hE1; have HR1 := Lib.hid hr1; have HC1 := Lib.hid (And.intro hcA hcB);  clear hcA hcB hr1 hE1)
  go_ret2
  exact rin_ext HI.out E1.out HFM.out HFT.out
set_option maxHeartbeats 4000000 in
set_option maxRecDepth 100000 in
theorem rin_none (Mu Ft : Nat → Prop) (p : Nat) (R : RefS) (x : List Int) (A : Option Addr) (n c : Nat) (w : World) (hE : RefO p R Mu Ft w) (hF : ∀ b, Ft b → Mu b) (hml : ∀ b, Mu b → b < w.heap.size) (hl : Rd w w.heap.size A n (u8s x)) (hby : Byt x) (hn : n ≤ 1000000000) (hnc : n ≤ c) (hc : c ≤ 9223372036854775807) (core : List Int) (hop : openL R.key x = (core, 0)) (hrd : readL core = none) :
    Calls Try.prog 20 #[.pointer (some ⟨p, 0, none⟩), .slice A n c] w fun e w' => RInPost Mu Ft w p (inR R x) e w' := by
  have hR : inR R x = (([], 2), R) := by unfold inR; rw [hop]; simp only [if_true, hrd]
  rw [hR]
  obtain ⟨SV, HV, vs, hs, I, hft⟩ := hE
  have ok := I.ok
  have HI := Lib.hid I; have HL := Lib.hid hl; have HBY := Lib.hid hby; have HFT := Lib.hid hft; have HFM := Lib.hid hF; have HML := Lib.hid hml
  have HP : Hid (mnew Mu w p) := Lib.hid (Or.inl (hF p (hft p (Or.inl rfl))))
  obtain ⟨ky, hky⟩ : ∃ k, k = R.key := ⟨_, rfl⟩
  have hc1 : w.cell? ⟨p, 1, none⟩ = some (.int .u64 ky) := by rw [hky]; exact I.blk.cell 1
  have k0 : 0 ≤ ky := by rw [hky]; exact ok.k0
  have k1 : ky ≤ 18446744073709551615 := by rw [hky]; exact ok.k1
  have HKY := Lib.hid hky
  rw [← hky] at hop
  have HOP := Lib.hid hop
  have HBC : Hid (Byt core) := Lib.hid (by have := openL_byt (key := ky) hby; rw [hop] at this; exact this)
  have HCL : Hid (core.length ≤ 1000000000) := Lib.hid (openL_len hop (by have := hl.1; simp [u8s] at this; omega))
  have HRN := Lib.hid hrd
  clear I hl hby ok hky hop hR hft hF hml hrd
  go_enter Try.func20, Try.ntmps20
  go_wp2_with (first
    | (go_at_call 30; (with_reducible refine (ropen_any ky k0 k1 x A n c w HL.out HBY.out hn hnc hc).mono ?_); rintro e w1 ⟨⟨A1, c1, rfl, ⟨hcA, hcB⟩, hr1⟩, hE1⟩; rw [HOP.out] at hcA hr1 ⊢; have E1 := Lib.hid hE1; have HR1 := Lib.hid hr1; have HC1 := Lib.hid (And.intro hcA hcB);  clear hcA hcB hr1 hE1)
    | (go_at_call 39; (with_reducible refine (rread_any core A1 core.length c1 w1 HR1.out HBC.out HCL.out HC1.out.1 HC1.out.2).mono ?_); rintro e w2 ⟨⟨a2, b2, A2, k2, c2, rfl, hr2⟩, hE2⟩; rw [HRN.out] at hr2 ⊢; have E2 : Hid (Ext w w2) := Lib.hid (E1.out.next hE2); clear hr2 hE2)
    | ((refine wpList_store_fresh rfl 43 (.tmp 8) (.tmp 38) rfl _ w2.heap.size rfl (pkC 0 0 none 0 0) (pkC a2 b2 A2 k2 c2) 43 (by rfl) (by rfl) rfl (info_rpk.trans rfl) rfl (pkC_one _ _ _ _ _) ?_); intro w3 hw3 hE3 hz3; have E3 : Hid (Ext w w3) := Lib.hid (E2.out.next hE3); have HE23 := Lib.hid hE3; have D3 := Lib.hid hw3; obtain ⟨p3, hp3⟩ : ∃ p, p = w2.heap.size := ⟨_, rfl⟩; rw [← hp3] at D3 ⊢; have HP3 : Hid (w.heap.size ≤ p3) := Lib.hid (by rw [hp3]; exact E2.out.size);  clear hw3 hz3 hp3 hE3))
  go_ret2
  exact rin_ext HI.out E3.out HFM.out HFT.out
theorem RInPost.rebase {Mu Ft : Nat → Prop} {w w1 : World} {p : Nat} {R : (List (List Int) × Int) × RefS} {e : Ending} {w' : World} (h : RInPost Mu Ft w1 p R e w') (hE : Ext w w1) : RInPost Mu Ft w p R e w' := by
  obtain ⟨OA, oc, k, ovs, h1, h2, h3, Ft', h4, h5, h6, h7, h8⟩ := h
  exact ⟨OA, oc, k, ovs, h1, h2, own_mono h3 hE.size, Ft', ⟨(Kept.of_ext hE).trans h4.kept, fun b hb => h4.old b (Nat.lt_of_lt_of_le hb hE.size)⟩, h5, h6, h7, h8⟩
theorem Msgs.take {Mu : Nat → Prop} {w : World} {vs : List Value} {ms : List (List Int)} (h : Msgs Mu w vs ms) (k : Nat) : Msgs Mu w (vs.take k) (ms.take k) := by
  refine ⟨by simp [h.1], fun j hj => ?_⟩
  rw [List.length_take] at hj
  have := h.2 j (by omega)
  rw [List.getD_eq_getElem?_getD, List.getD_eq_getElem?_getD, List.getElem?_take, List.getElem?_take, if_pos (by omega), if_pos (by omega), ← List.getD_eq_getElem?_getD, ← List.getD_eq_getElem?_getD]
  exact this
theorem Msgs.app {Mu : Nat → Prop} {w : World} {vs us : List Value} {ms ns : List (List Int)} (h : Msgs Mu w vs ms) (h2 : Msgs Mu w us ns) : Msgs Mu w (vs ++ us) (ms ++ ns) := by
  refine ⟨by simp [h.1, h2.1], fun j hj => ?_⟩
  have hl := h.1
  rw [List.getD_eq_getElem?_getD, List.getD_eq_getElem?_getD]
  by_cases hjl : j < ms.length
  · rw [List.getElem?_append_left (by omega), List.getElem?_append_left hjl, ← List.getD_eq_getElem?_getD, ← List.getD_eq_getElem?_getD]
    exact h.2 j hjl
  · rw [List.getElem?_append_right (by omega), List.getElem?_append_right (by omega), ← List.getD_eq_getElem?_getD, ← List.getD_eq_getElem?_getD, hl]
    exact h2.2 (j - ms.length) (by rw [List.length_append] at hj; omega)
theorem held_info : (Try.prog.info? 78).map (fun i => (i.zero.map (fun z => z.cells.size), i.size, i.bytes)) = some (some 2, 2, 32) := by kernel_rfl
/-- A message has been put behind the held ones. -/
theorem IsRef.puts {M : Nat → Prop} {w w7 W : World} {p : Nat} {R : RefS} {SV HV v : Value} {vs : List Value} {hs : List (Int × Value)} {s : Int} {u : Value} {m : List Int} (I : IsRef M w p R SV HV vs hs) (hp : M p) (hH : ∀ b, HV.ownBlock = some b → M b) (hE : Ext w w7) (hg : w7.grownBy W HV.ownBlock) (ho : W.ownsRow 0 78 2 v (R.held.length + 1) (heldC hs ++ [.int .i64 s, u])) (hm : Msg M w u m) (hs64 : in64 s) (h1 : R.held.length < 1000) (h2 : R.got + R.held.length < 1000000000) :
    IsRef M (W.setCell ⟨p, 5, none⟩ v) p (putR R s m) SV v vs (hs ++ [(s, u)]) := by
  have hk : Kept (fun b => HV.ownBlock = some b) w7 W := Kept.of_grown hg (fun b hb _ => hb)
  have hk0 : Kept (fun b => HV.ownBlock = some b) w W := (Kept.of_ext hE).trans hk
  have I7 := I.ext hE
  refine I7.put (hk.mono (fun b _ h => Or.inr h)) hp 5 v (R' := putR R s m) rfl (hk.own I7.row (fun b hb hf => I7.np.2.2 b hb hf)) (I7.msgs.keep hk hH (fun _ _ h => h)) ?_ ?_ ?_ ?_
  · simp only [putR, List.length_append, List.length_cons, List.length_nil]
    rw [heldC_append]
    exact ho
  · simp only [putR, List.map_append, List.map_cons, List.map_nil, I7.hks]
  · simp only [putR, List.map_append, List.map_cons, List.map_nil]
    exact (I7.hms.keep hk hH (fun _ _ h => h)).snoc (hm.keep hk0 hH (fun _ _ h => h))
  · obtain ⟨o1, o2, o3, o4, o5, o6, o7, o8, o9, o10, o11, o12, o13⟩ := I.ok
    refine ⟨o1, o2, o3, o4, o5, o6, o7, o8, ?_, o10, o11, ?_, ?_⟩
    · simp [putR]; omega
    · simp [putR]; omega
    · intro x hx
      simp only [putR, List.mem_append, List.mem_singleton] at hx
      rcases hx with hx | hx
      · exact o13 x hx
      · rw [hx]; exact hs64
theorem rin_done {Mu Ft : Nat → Prop} {w w' : World} {p : Nat} {r : Int} {R : RefS} {SV HV : Value} {vs : List Value} {hs : List (Int × Value)} {OA : Option Addr} {k oc : Nat} {ovs : List Value} {oms : List (List Int)} (I : IsRef (mnew Mu w) w' p R SV HV vs hs) (hk : Kept Ft w w') (hF : ∀ b, Ft b → Mu b) (hml : ∀ b, Mu b → b < w.heap.size) (hp : Ft p) (hSV : ∀ b, SV.ownBlock = some b → Ft b) (hHV : ∀ b, HV.ownBlock = some b → Ft b ∨ w.heap.size ≤ b)
    (ho : w'.ownsRow w.heap.size 33 1 (.slice OA k oc) k ovs) (hk1 : oms.length = k) (hms : Msgs (mnew Mu w) w' ovs oms) : RInPost Mu Ft w p ((oms, r), R) (.returned (.tuple #[.slice OA k oc, .int .i64 r])) w' := by
  have hS : ∀ b, ftR p SV HV b → Ft b ∨ w.heap.size ≤ b := fun b hb => by
    rcases hb with rfl | hb | hb
    · exact Or.inl hp
    · exact Or.inl (hSV b hb)
    · exact hHV b hb
  have hM : ∀ b, b < w'.heap.size → mor Mu (ftR p SV HV) b → mnew Mu w b := fun b _ h => h.elim Or.inl (fun h => (hS b h).elim (fun h => Or.inl (hF b h)) Or.inr)
  refine ⟨OA, oc, k, ovs, rfl, hk1, ho, ftR p SV HV, ⟨hk, fun b hb h => (hS b h).resolve_right (by omega)⟩, I.lt, fun b hb h => ?_, hms.mu hM, SV, HV, vs, hs, I.mu hM, fun _ h => h⟩
  have h1 := own_ge ho hb
  rcases h with rfl | h | h
  · have := hml _ (hF _ hp); omega
  · have := hml _ (hF _ (hSV b h)); omega
  · exact own_tag ho I.hrow (by decide) hb h
theorem stepR_len {R : RefS} {i : Nat} (h : i < R.held.length) : (stepR R i).held.length + 1 = R.held.length := by
  simp only [stepR, List.length_append, List.length_take, List.length_drop]; omega
theorem rdel_stop {R : RefS} (h : rfind (keysR R) (R.got + 1) < 0) (k : Nat) (out : List (List Int)) : rdel k R out = (out, R) := by
  cases k with
  | zero => rfl
  | succ k => unfold rdel; rw [if_pos h]
theorem rfind_bd (ks : List Int) (s : Int) : -1 ≤ rfind ks s ∧ rfind ks s < ks.length := by
  unfold rfind
  split <;> omega
/-- A message has been taken out of the held ones, its row new. -/
theorem IsRef.steps {M : Nat → Prop} {w : World} {p : Nat} {R : RefS} {SV HV v : Value} {vs : List Value} {hs : List (Int × Value)} {i : Nat} {d : Int} (I : IsRef M w p R SV HV vs hs) (hp : M p) (hi : i < R.held.length) {base : Nat} (ho : w.ownsRow base 78 2 v (i + (R.held.length - (i + 1))) (heldC (hs.take i) ++ heldC (hs.drop (i + 1)))) (hd : d = R.got + 1) :
    IsRef M ((w.setCell ⟨p, 5, none⟩ v).setCell ⟨p, 4, none⟩ (.int .i64 d)) p (stepR R i) SV v vs (hs.take i ++ hs.drop (i + 1)) := by
  have hlen : (R.held.take i ++ R.held.drop (i + 1)).length = i + (R.held.length - (i + 1)) := by
    simp only [List.length_append, List.length_take, List.length_drop]; omega
  have hl : hs.length = R.held.length := by have := congrArg List.length I.hks; simpa using this
  obtain ⟨o1, o2, o3, o4, o5, o6, o7, o8, o9, o10, o11, o12, o13⟩ := I.ok
  have hk : ∀ x ∈ R.held.take i ++ R.held.drop (i + 1), in64 x.1 := fun x hx => by
    rw [List.mem_append] at hx
    exact hx.elim (fun h => o13 x (List.mem_of_mem_take h)) (fun h => o13 x (List.mem_of_mem_drop h))
  have I1 := I.put (w8 := w) (Kept.refl _ _) hp 5 v (R' := { R with held := R.held.take i ++ R.held.drop (i + 1) }) (SV' := SV) (HV' := v) (vs' := vs) (hs' := hs.take i ++ hs.drop (i + 1)) rfl I.row I.msgs (by
      simp only
      rw [hlen, heldC_append]
      exact own_mono ho (Nat.zero_le _)) (by
      simp only [List.map_append, List.map_take, List.map_drop, I.hks]) (by
      simp only [List.map_append, List.map_take, List.map_drop]
      exact (I.hms.take i).app (I.hms.drop (i + 1))) ⟨o1, o2, o3, o4, o5, o6, o7, o8, by simp only [hlen]; omega, o10, o11, by simp only [hlen]; omega, hk⟩
  exact I1.num hp 4 (.int .i64 d) (R' := stepR R i) (by rw [hd]; rfl) rfl rfl ⟨o1, o2, o3, o4, o5, o6, o7, by simp only [stepR]; omega, by simp only [stepR, hlen]; omega, o10, o11, by simp only [stepR, hlen]; omega, hk⟩
set_option maxHeartbeats 4000000 in
set_option maxRecDepth 100000 in
theorem rin_pkt (Mu Ft : Nat → Prop) (p : Nat) (R : RefS) (x : List Int) (A : Option Addr) (n c : Nat) (w : World) (hE : RefO p R Mu Ft w) (hF : ∀ b, Ft b → Mu b) (hml : ∀ b, Mu b → b < w.heap.size) (hl : Rd w w.heap.size A n (u8s x)) (hby : Byt x) (hn : n ≤ 1000000000) (hnc : n ≤ c) (hc : c ≤ 9223372036854775807) (core : List Int) (s a : Int) (m : List Int) (hop : openL R.key x = (core, 0)) (hrd : readL core = some (s, a, m)) (hhl : R.held.length < 1000) (hgot : R.got + R.held.length < 1000000000) :
    Calls Try.prog 20 #[.pointer (some ⟨p, 0, none⟩), .slice A n c] w fun e w' => RInPost Mu Ft w p (inR R x) e w' := by
  have hR : inR R x = pktR R s a m := by unfold inR; rw [hop]; simp only [if_true, hrd]
  rw [hR]
  obtain ⟨RES, hRES⟩ : ∃ r, r = pktR R s a m := ⟨_, rfl⟩
  rw [← hRES]
  have HRES := Lib.hid hRES
  clear hRES
  obtain ⟨SV, HV, vs, hs, I, hft⟩ := hE
  have ok := I.ok
  have HI := Lib.hid I; have HL := Lib.hid hl; have HBY := Lib.hid hby; have HFT := Lib.hid hft; have HFM := Lib.hid hF; have HML := Lib.hid hml
  have HP : Hid (mnew Mu w p) := Lib.hid (Or.inl (hF p (hft p (Or.inl rfl))))
  obtain ⟨ky, hky⟩ : ∃ k, k = R.key := ⟨_, rfl⟩
  have hc1 : w.cell? ⟨p, 1, none⟩ = some (.int .u64 ky) := by rw [hky]; exact I.blk.cell 1
  have k0 : 0 ≤ ky := by rw [hky]; exact ok.k0
  have k1 : ky ≤ 18446744073709551615 := by rw [hky]; exact ok.k1
  have HKY := Lib.hid hky
  rw [← hky] at hop
  have HOP := Lib.hid hop
  have HBC : Hid (Byt core) := Lib.hid (by have := openL_byt (key := ky) hby; rw [hop] at this; exact this)
  have HCL : Hid (core.length ≤ 1000000000) := Lib.hid (openL_len hop (by have := hl.1; simp [u8s] at this; omega))
  have HRN := Lib.hid hrd
  obtain ⟨SA, sc, hSV, hsc1, hsc2⟩ := own_form I.row
  subst hSV
  obtain ⟨HA, hc', hHV, hhc1, hhc2⟩ := own_form I.hrow
  subst hHV
  obtain ⟨sn, hsn⟩ : ∃ k, k = R.sent.length := ⟨_, rfl⟩
  obtain ⟨nh, hnh⟩ : ∃ k, k = R.held.length := ⟨_, rfl⟩
  obtain ⟨ac, hac⟩ : ∃ k, k = R.acked := ⟨_, rfl⟩
  obtain ⟨gt, hgt⟩ : ∃ k, k = R.got := ⟨_, rfl⟩
  obtain ⟨ow, how⟩ : ∃ k, k = R.owing := ⟨_, rfl⟩
  have a0 : 0 ≤ ac := by rw [hac]; exact ok.a0
  have a1 : ac ≤ sn := by rw [hac, hsn]; exact ok.a1
  have n1 : sn ≤ 1000 := by rw [hsn]; exact ok.s1
  have g0 : 0 ≤ gt := by rw [hgt]; exact ok.g0
  have hgot2 : gt + nh < 1000000000 := by rw [hgt, hnh]; exact hgot
  have hhl2 : nh < 1000 := by rw [hnh]; exact hhl
  rw [← hsn] at hsc1
  rw [← hnh] at hhc1
  have HB : Hid (∀ W, Ext w W → W.cell? ⟨p, 2, none⟩ = some (.slice SA sn sc) ∧ W.cell? ⟨p, 3, none⟩ = some (.int .i64 ac) ∧ W.cell? ⟨p, 4, none⟩ = some (.int .i64 gt) ∧ W.frozen? ⟨p, 3, none⟩ = false) := Lib.hid (fun W hW => by
    have hb := I.blk.ext hW
    refine ⟨?_, ?_, ?_, hb.frozen 3⟩
    · rw [hsn]; exact hb.cell 2
    · rw [hac]; exact hb.cell 3
    · rw [hgt]; exact hb.cell 4)
  have HSN := Lib.hid hsn; have HNH := Lib.hid hnh; have HAC := Lib.hid hac; have HGT := Lib.hid hgt; have HOW := Lib.hid how; have HPL := Lib.hid I.blk.lt
  clear I hl hby ok hky hop hR hft hF hml hrd hsn hnh hac hgt how hgot hhl
  go_enter Try.func20, Try.ntmps20
  go_upto_region 9 with (first
    | (go_at_call 30; (with_reducible refine (ropen_any ky k0 k1 x A n c w HL.out HBY.out hn hnc hc).mono ?_); rintro e w1 ⟨⟨A1, c1, rfl, ⟨hcA, hcB⟩, hr1⟩, hE1⟩; rw [HOP.out] at hcA hr1 ⊢; have E1 := Lib.hid hE1; have HR1 := Lib.hid hr1; have HC1 := Lib.hid (And.intro hcA hcB);  clear hcA hcB hr1 hE1)
    | (go_at_call 39; (with_reducible refine (rread_any core A1 core.length c1 w1 HR1.out HBC.out HCL.out HC1.out.1 HC1.out.2).mono ?_); rintro e w2 ⟨⟨a2, b2, A2, k2, c2, rfl, hr2⟩, hE2⟩; rw [HRN.out] at hr2 ⊢; have E2 : Hid (Ext w w2) := Lib.hid (E1.out.next hE2); obtain ⟨e1, e2, e3, hm64, s0, t0, s1, t1, hbm, hrm, hcap, gm, hA2, hgm⟩ := hr2 _ _ _ rfl; rw [e1, e2, e3, hA2]; rw [e3, hA2] at hrm; rw [e3] at hcap; have HRM := Lib.hid hrm; have HBM := Lib.hid hbm; have HCAP := Lib.hid hcap; have HGM : Hid (w.heap.size ≤ gm) := Lib.hid (Nat.le_trans E1.out.size hgm); clear hr2 hE2 e1 e2 e3 hrm hA2 hgm hbm hcap)
    | ((refine wpList_store_fresh rfl 43 (.tmp 8) (.tmp 38) rfl _ w2.heap.size rfl (pkC 0 0 none 0 0) (pkC s a (some ⟨gm, 0, none⟩) m.length c2) 43 (by rfl) (by rfl) rfl (info_rpk.trans rfl) rfl (pkC_one _ _ _ _ _) ?_); intro w3 hw3 hE3 hz3; have E3 : Hid (Ext w w3) := Lib.hid (E2.out.next hE3); have HE23 := Lib.hid hE3; have D3 := Lib.hid hw3; obtain ⟨p3, hp3⟩ : ∃ p, p = w2.heap.size := ⟨_, rfl⟩; rw [← hp3] at D3 ⊢; have HP3 : Hid (w.heap.size ≤ p3) := Lib.hid (by rw [hp3]; exact E2.out.size);  clear hw3 hz3 hp3 hE3))
  obtain ⟨q2, q3, q4, _⟩ := HB.out w3 E3.out
  have r0 : w3.cell? ⟨p3, 0, none⟩ = some (.int .i64 s) := D3.out.cell 0
  have r1 : w3.cell? ⟨p3, 1, none⟩ = some (.int .i64 a) := D3.out.cell 1
  by_cases hfar : (sn : Int) < a ∨ gt + 16 < s
  · have hP : RES = (([], 0), R) := by rw [HRES.out]; unfold pktR; rw [← HSN.out, ← HGT.out, if_pos hfar]
    have HPP := Lib.hid hP
    clear hP
    by_cases hf1 : (sn : Int) < a
    · go_quiet (fail)
      go_wp2_with fail
      go_ret2
      rw [HPP.out]
      exact rin_ext HI.out (E3.out.drewN _) HFM.out HFT.out
    · have hf2 : gt + 16 < s := by omega
      go_quiet (fail)
      go_wp2_with fail
      go_ret2
      rw [HPP.out]
      exact rin_ext HI.out (E3.out.drewN _) HFM.out HFT.out
  · have hf1 : ¬ ((sn : Int) < a) := fun h => hfar (Or.inl h)
    have hf2 : ¬ (gt + 16 < s) := fun h => hfar (Or.inr h)
    go_quiet (fail)
    go_upto_region 11 with fail
    generalize hg4 : w3.drewN _ = w4
    have E34 : Hid (Ext w3 w4) := Lib.hid (by rw [← hg4]; exact (Ext.refl w3).drewN _)
    have E4 : Hid (Ext w w4) := Lib.hid (E3.out.next E34.out)
    have D4 := Lib.hid (D3.out.ext E34.out)
    have HPP3 : Hid (p3 ≠ p) := Lib.hid (by have := HPL.out; have := HP3.out; omega)
    have HM4 : Hid (Msg (mnew Mu w4) w4 (.slice (some ⟨gm, 0, none⟩) m.length c2) m) := Lib.hid (by
      have hr := HRM.out.ext' (HE23.out.next E34.out)
      refine ⟨HBM.out, hm64, _, c2, rfl, HCAP.out.1, HCAP.out.2, hr.1, fun h0 => ?_⟩
      obtain ⟨b, oo, hA, hb, hcc⟩ := hr.2 h0
      refine ⟨b, oo, hA, hb, fun h => ?_, hcc⟩
      injection hA with hA
      injection hA with hA _
      rcases h with h | h
      · have := HML.out b h; have := HGM.out; omega
      · omega)
    have I4 : Hid (IsRef (mnew Mu w4) w4 p R (.slice SA R.sent.length sc) (.slice HA R.held.length hc') vs hs) := Lib.hid ((HI.out.ext E4.out).to_new)
    have HP4 : Hid (mnew Mu w4 p) := Lib.hid (Or.inl (HFM.out p (HFT.out p (Or.inl rfl))))
    have HRE : Hid (∀ e w', RInPost Mu Ft w4 p RES e w' → RInPost Mu Ft w p RES e w') := Lib.hid (fun e w' h => h.rebase E4.out)
    have HFH : Hid (∀ b, (Value.slice HA R.held.length hc').ownBlock = some b → mnew Mu w4 b) := Lib.hid (fun b hb => Or.inl (HFM.out b (HFT.out b (Or.inr (Or.inr hb)))))
    have HKP : Hid (∀ j u W, Kept (fun b => Ft b) W (W.setCell ⟨p, j, none⟩ u)) := Lib.hid (fun j u W => Kept.setCell (p := ⟨p, j, none⟩) W (HFT.out p (Or.inl rfl)) u)
    obtain ⟨mx, hmx⟩ : ∃ x, x = max ac a := ⟨_, rfl⟩
    have HMX := Lib.hid hmx
    have hmxb : 0 ≤ mx ∧ mx ≤ sn := by omega
    clear hg4 hmx hfar q2 q3 q4 r0 r1 HBC HCL HRM HBM HCAP
    refine wp_region_flowF 10 ?F11 (fun us => ?_) (by kernel_rfl) (by kernel_rfl) (fun a b => Ext a b) Ext.refl (fun h1 h2 => h1.next h2) (fun i v W => match i with
      | 0 => v = .pointer (some ⟨p, 0, none⟩)
      | 1 => v = .pointer (some ⟨p, 0, none⟩)
      | 2 => v = .pointer (some ⟨p, 0, none⟩)
      | 3 => v = .pointer (some ⟨p, 3, none⟩)
      | 4 => v = .int .i64 ac
      | 5 => v = .pointer (some ⟨p3, 1, none⟩)
      | 6 => v = .int .i64 a
      | 7 => v = .int .i64 mx
      | 8 => v = .pointer (some ⟨p, 0, none⟩)
      | 9 => v = .pointer (some ⟨p, 3, none⟩)
      | _ => True) ?_ ?_
    case refine_1 =>
      simp only [List.take_succ_cons, List.take_zero, flowAct, Nat.zero_add, Nat.reduceAdd, Act.put, List.setIfInBounds_toArray, List.set_cons_succ, List.set_cons_zero]
      rfl
    · simp only [List.take_succ_cons, List.take_zero, flowStepsF]
      refine ⟨?_, ?_, ?_, ?_, ?_, ?_, ?_, ?_, ?_, ?_, trivial⟩
      · intro us W K hE hd hK
        dsimp only at hK ⊢
        have HK := Lib.hid hK; have HE := Lib.hid hE
        clear hK hd hE
        go_wp2_with fail
        exact K_at (HK.out (.pointer (some ⟨p, 0, none⟩)) W (fun _ _ => rfl) (Ext.refl W)) (by kernel_rfl)
      · intro us W K hE hd hK
        dsimp only at hK ⊢
        have HK := Lib.hid hK; have HE := Lib.hid hE
        clear hK hd hE
        go_wp2_with fail
        exact K_at (HK.out (.pointer (some ⟨p, 0, none⟩)) W (fun _ _ => rfl) (Ext.refl W)) (by kernel_rfl)
      · intro us W K hE hd hK
        have d1 := hd 1 (by kernel_rfl)
        dsimp only at hK ⊢
        rw [d1] at hK ⊢
        have HK := Lib.hid hK; have HE := Lib.hid hE
        clear hK hd hE d1
        go_wp2_with fail
        exact K_at (HK.out (.pointer (some ⟨p, 0, none⟩)) W (fun _ _ => rfl) (Ext.refl W)) (by kernel_rfl)
      · intro us W K hE hd hK
        have d2 := hd 2 (by kernel_rfl)
        dsimp only at hK ⊢
        rw [d2] at hK ⊢
        have HK := Lib.hid hK; have HE := Lib.hid hE
        clear hK hd hE d2
        go_wp2_with fail
        exact K_at (HK.out (.pointer (some ⟨p, 3, none⟩)) W (fun _ _ => rfl) (Ext.refl W)) (by kernel_rfl)
      · intro us W K hE hd hK
        have d3 := hd 3 (by kernel_rfl)
        have c0 := (HB.out W (E4.out.next (ext_undrew hE))).2.1
        dsimp only at hK ⊢
        rw [d3] at hK ⊢
        have HK := Lib.hid hK; have HE := Lib.hid hE
        clear hK hd hE d3
        go_wp2_with fail
        exact K_at (HK.out (.int .i64 ac) W (fun _ _ => rfl) (Ext.refl W)) (by kernel_rfl)
      · intro us W K hE hd hK
        dsimp only at hK ⊢
        have HK := Lib.hid hK; have HE := Lib.hid hE
        clear hK hd hE
        go_wp2_with fail
        exact K_at (HK.out (.pointer (some ⟨p3, 1, none⟩)) W (fun _ _ => rfl) (Ext.refl W)) (by kernel_rfl)
      · intro us W K hE hd hK
        have d5 := hd 5 (by kernel_rfl)
        have c0 := (D4.out.ext (ext_undrew hE)).cell 1
        simp only [pkC, List.getElem?_cons_zero, List.getElem?_cons_succ] at c0
        dsimp only at hK ⊢
        rw [d5] at hK ⊢
        have HK := Lib.hid hK; have HE := Lib.hid hE
        clear hK hd hE d5
        go_wp2_with fail
        exact K_at (HK.out (.int .i64 a) W (fun _ _ => rfl) (Ext.refl W)) (by kernel_rfl)
      · intro us W K hE hd hK
        have d4 := hd 4 (by kernel_rfl)
        have d6 := hd 6 (by kernel_rfl)
        dsimp only at hK ⊢
        rw [d4, d6] at hK ⊢
        have HK := Lib.hid hK; have HE := Lib.hid hE
        clear hK hd hE d4 d6
        by_cases hm : a ≤ ac
        · have e : mx = ac := by rw [HMX.out]; omega
          rw [e] at HK
          go_wp2_with fail
          exact K_at (HK.out (.int .i64 ac) W (fun _ _ => rfl) (Ext.refl W)) (by kernel_rfl)
        have e : mx = a := by rw [HMX.out]; omega
        rw [e] at HK
        have hm2 : ac < a := by omega
        go_wp2_with fail
        exact K_at (HK.out (.int .i64 a) W (fun _ _ => rfl) (Ext.refl W)) (by kernel_rfl)
      · intro us W K hE hd hK
        have d0 := hd 0 (by kernel_rfl)
        dsimp only at hK ⊢
        rw [d0] at hK ⊢
        have HK := Lib.hid hK; have HE := Lib.hid hE
        clear hK hd hE d0
        go_wp2_with fail
        exact K_at (HK.out (.pointer (some ⟨p, 0, none⟩)) W (fun _ _ => rfl) (Ext.refl W)) (by kernel_rfl)
      · intro us W K hE hd hK
        have d8 := hd 8 (by kernel_rfl)
        dsimp only at hK ⊢
        rw [d8] at hK ⊢
        have HK := Lib.hid hK; have HE := Lib.hid hE
        clear hK hd hE d8
        go_wp2_with fail
        exact K_at (HK.out (.pointer (some ⟨p, 3, none⟩)) W (fun _ _ => rfl) (Ext.refl W)) (by kernel_rfl)
    · intro us W hE hd
      try dsimp only
      have d7 := hd 7 (by decide)
      have d9 := hd 9 (by decide)
      simp only [List.drop_succ_cons, List.drop_zero]
      rw [d7, d9]
      have E4W := Lib.hid (ext_undrew hE)
      obtain ⟨_, q3, _, f3⟩ := HB.out W (E4.out.next E4W.out)
      clear hd hE d7 d9
      go_upto_region 12 with fail
      obtain ⟨w5, hw5⟩ : ∃ x, x = W.setCell ⟨p, 3, none⟩ (.int .i64 mx) := ⟨_, rfl⟩
      rw [← hw5]
      have I5 : Hid (IsRef (mnew Mu w4) w5 p (ackR R a) (.slice SA R.sent.length sc) (.slice HA R.held.length hc') vs hs) := Lib.hid (by
        rw [hw5]
        refine (I4.out.ext E4W.out).num HP4.out 3 _ ?_ rfl rfl ?_
        · rw [HMX.out, HAC.out]; rfl
        · obtain ⟨o1, o2, o3, o4, o5, o6, o7, o8, o9, o10, o11, o12, o13⟩ := I4.out.ok
          have h1 := HMX.out; have h2 := HAC.out; have h3 := HSN.out
          exact ⟨o1, o2, o3, o4, (by simp only [ackR]; omega), (by simp only [ackR]; omega), o7, o8, o9, o10, o11, o12, o13⟩)
      have K5 : Hid (Kept Ft w4 w5) := Lib.hid (by rw [hw5]; exact (Kept.of_ext E4W.out).trans (HKP.out 3 _ W))
      have D5 : Hid (Blk w5 p3 43 (pkC s a (some ⟨gm, 0, none⟩) m.length c2)) := Lib.hid (by rw [hw5]; exact (D4.out.ext E4W.out).far (p := ⟨p, 3, none⟩) HPP3.out _)
      clear hw5 q3 f3 E4W
      have r0 : w5.cell? ⟨p3, 0, none⟩ = some (.int .i64 s) := D5.out.cell 0
      by_cases hs0 : s = 0
      · have hq : ((s : Int) == 0) = true := by rw [hs0]; rfl
        have hP : RES = (([], 0), ackR R a) := by rw [HRES.out]; unfold pktR; rw [← HSN.out, ← HGT.out, if_neg (fun h => h.elim hf1 hf2), if_pos hs0]
        have HPP := Lib.hid hP
        clear hP hs0
        go_wp2_with fail
        go_ret2
        refine HRE.out _ _ ?_
        rw [HPP.out]
        exact rin_nil I5.out K5.out HFM.out HFT.out
      · have hq : ((s : Int) == 0) = false := by rw [beq_eq_false_iff_ne]; exact hs0
        have HS0 := Lib.hid hs0
        clear hs0
        have q6 : w5.cell? ⟨p, 6, none⟩ = some (.bool ow) := by rw [HOW.out]; exact I5.out.blk.cell 6
        have f6 : w5.frozen? ⟨p, 6, none⟩ = false := I5.out.blk.frozen 6
        go_upto_region 15 with fail
        obtain ⟨w6, hw6⟩ : ∃ x, x = w5.setCell ⟨p, 6, none⟩ (.bool true) := ⟨_, rfl⟩
        rw [← hw6]
        have I6 : Hid (IsRef (mnew Mu w4) w6 p (owesR (ackR R a)) (.slice SA R.sent.length sc) (.slice HA R.held.length hc') vs hs) := Lib.hid (by
          rw [hw6]
          refine I5.out.num HP4.out 6 _ rfl rfl rfl ?_
          obtain ⟨o1, o2, o3, o4, o5, o6, o7, o8, o9, o10, o11, o12, o13⟩ := I5.out.ok
          exact ⟨o1, o2, o3, o4, o5, o6, o7, o8, o9, o10, o11, o12, o13⟩)
        have K6 : Hid (Kept Ft w4 w6) := Lib.hid (by rw [hw6]; exact K5.out.trans (HKP.out 6 _ w5))
        have D6 : Hid (Blk w6 p3 43 (pkC s a (some ⟨gm, 0, none⟩) m.length c2)) := Lib.hid (by rw [hw6]; exact D5.out.far (p := ⟨p, 6, none⟩) HPP3.out _)
        clear hw6 q6 f6 r0 hq I5 K5 D5
        have r0 : w6.cell? ⟨p3, 0, none⟩ = some (.int .i64 s) := D6.out.cell 0
        have q4 : w6.cell? ⟨p, 4, none⟩ = some (.int .i64 gt) := by rw [HGT.out]; exact I6.out.blk.cell 4
        by_cases hsg : s ≤ gt
        · have hd1 : decide (s ≤ gt) = true := decide_eq_true hsg
          have hP : RES = (([], 0), owesR (ackR R a)) := by rw [HRES.out]; unfold pktR; rw [← HSN.out, ← HGT.out, if_neg (fun h => h.elim hf1 hf2), if_neg HS0.out, if_pos (Or.inl hsg)]
          have HPP := Lib.hid hP
          clear hP
          go_quiet (fail)
          go_wp2_with fail
          go_ret2
          refine HRE.out _ _ ?_
          rw [HPP.out]
          exact rin_nil (I6.out.ext ((Ext.refl w6).drewN _)) (K6.out.trans (Kept.of_ext ((Ext.refl w6).drewN _))) HFM.out HFT.out
        · have hd1 : decide (s ≤ gt) = false := decide_eq_false hsg
          obtain ⟨f, hf⟩ : ∃ f, f = rfind (keysR R) s := ⟨_, rfl⟩
          have HF := Lib.hid hf
          have HFD : Hid (∀ W, Ext w6 W → Calls Try.prog 40 #[.pointer (some ⟨p, 0, none⟩), .int .i64 s] W fun e w' => e = .returned (.int .i64 f) ∧ W = w') := Lib.hid (fun W hW => rfind_any _ p _ _ _ vs hs W (I6.out.ext hW) s f hf)
          obtain ⟨bf, hbf⟩ : ∃ b, b = decide (0 ≤ f) := ⟨_, rfl⟩
          have HBF := Lib.hid hbf
          clear hf hbf r0 q4
          have hfb : f ≤ 1000000 := by
            rw [HF.out]; unfold rfind keysR; have h1 := HNH.out; split
            · rw [List.length_map] at *; omega
            · omega
          have hfb2 : -1 ≤ f := by rw [HF.out]; unfold rfind; split <;> omega
          go_upto_region 15 with fail
          refine wp_region_flowF 14 ?F15 (fun us => ?_) (by kernel_rfl) (by kernel_rfl) (fun a b => Ext a b) Ext.refl (fun h1 h2 => h1.next h2) (fun i v W => match i with
            | 0 => v = .pointer (some ⟨p3, 0, none⟩)
            | 1 => v = .int .i64 s
            | 2 => v = .pointer (some ⟨p, 0, none⟩)
            | 3 => v = .pointer (some ⟨p, 0, none⟩)
            | 4 => v = .pointer (some ⟨p, 4, none⟩)
            | 5 => v = .int .i64 gt
            | 6 => v = .bool false
            | 7 => v = .bool false
            | 8 => v = .pointer (some ⟨p, 0, none⟩)
            | 9 => v = .pointer (some ⟨p3, 0, none⟩)
            | 10 => v = .int .i64 s
            | 11 => v = .int .i64 f
            | 12 => v = .bool bf
            | 13 => v = .bool bf
            | _ => True) ?_ ?_
          case refine_1 =>
            simp only [List.take_succ_cons, List.take_zero, flowAct, Nat.zero_add, Nat.reduceAdd, Act.put, List.setIfInBounds_toArray, List.set_cons_succ, List.set_cons_zero]
            rfl
          · simp only [List.take_succ_cons, List.take_zero, flowStepsF]
            refine ⟨?_, ?_, ?_, ?_, ?_, ?_, ?_, ?_, ?_, ?_, ?_, ?_, ?_, ?_, trivial⟩
            · intro us W K hE hd hK
              dsimp only at hK ⊢
              have HK := Lib.hid hK; have HE := Lib.hid hE
              clear hK hd hE
              go_wp2_with fail
              exact K_at (HK.out (.pointer (some ⟨p3, 0, none⟩)) W (fun _ _ => rfl) (Ext.refl W)) (by kernel_rfl)
            · intro us W K hE hd hK
              have d0 := hd 0 (by kernel_rfl)
              have c0 := (D6.out.ext (ext_undrew hE)).cell 0
              simp only [pkC, List.getElem?_cons_zero, List.getElem?_cons_succ] at c0
              dsimp only at hK ⊢
              rw [d0] at hK ⊢
              have HK := Lib.hid hK; have HE := Lib.hid hE
              clear hK hd hE d0
              go_wp2_with fail
              exact K_at (HK.out (.int .i64 s) W (fun _ _ => rfl) (Ext.refl W)) (by kernel_rfl)
            · intro us W K hE hd hK
              dsimp only at hK ⊢
              have HK := Lib.hid hK; have HE := Lib.hid hE
              clear hK hd hE
              go_wp2_with fail
              exact K_at (HK.out (.pointer (some ⟨p, 0, none⟩)) W (fun _ _ => rfl) (Ext.refl W)) (by kernel_rfl)
            · intro us W K hE hd hK
              have d2 := hd 2 (by kernel_rfl)
              dsimp only at hK ⊢
              rw [d2] at hK ⊢
              have HK := Lib.hid hK; have HE := Lib.hid hE
              clear hK hd hE d2
              go_wp2_with fail
              exact K_at (HK.out (.pointer (some ⟨p, 0, none⟩)) W (fun _ _ => rfl) (Ext.refl W)) (by kernel_rfl)
            · intro us W K hE hd hK
              have d3 := hd 3 (by kernel_rfl)
              dsimp only at hK ⊢
              rw [d3] at hK ⊢
              have HK := Lib.hid hK; have HE := Lib.hid hE
              clear hK hd hE d3
              go_wp2_with fail
              exact K_at (HK.out (.pointer (some ⟨p, 4, none⟩)) W (fun _ _ => rfl) (Ext.refl W)) (by kernel_rfl)
            · intro us W K hE hd hK
              have d4 := hd 4 (by kernel_rfl)
              have c0 : W.cell? ⟨p, 4, none⟩ = some (.int .i64 gt) := by rw [HGT.out]; exact (I6.out.ext (ext_undrew hE)).blk.cell 4
              dsimp only at hK ⊢
              rw [d4] at hK ⊢
              have HK := Lib.hid hK; have HE := Lib.hid hE
              clear hK hd hE d4
              go_wp2_with fail
              exact K_at (HK.out (.int .i64 gt) W (fun _ _ => rfl) (Ext.refl W)) (by kernel_rfl)
            · intro us W K hE hd hK
              have d1 := hd 1 (by kernel_rfl)
              have d5 := hd 5 (by kernel_rfl)
              dsimp only at hK ⊢
              rw [d1, d5] at hK ⊢
              have HK := Lib.hid hK; have HE := Lib.hid hE
              clear hK hd hE d1 d5
              go_wp2_with fail
              exact K_at (HK.out (.bool false) W (fun _ _ => rfl) (Ext.refl W)) (by kernel_rfl)
            · intro us W K hE hd hK
              have d6 := hd 6 (by kernel_rfl)
              dsimp only at hK ⊢
              rw [d6] at hK ⊢
              have HK := Lib.hid hK; have HE := Lib.hid hE
              clear hK hd hE d6
              go_wp2_with fail
              exact K_at (HK.out (.bool false) W (fun _ _ => rfl) (Ext.refl W)) (by kernel_rfl)
            · intro us W K hE hd hK
              have d7 := hd 7 (by kernel_rfl)
              dsimp only at hK ⊢
              rw [d7] at hK ⊢
              have HK := Lib.hid hK; have HE := Lib.hid hE
              clear hK hd hE d7
              go_wp2_with fail
              exact K_at (HK.out (.pointer (some ⟨p, 0, none⟩)) W (fun _ _ => rfl) (Ext.refl W)) (by kernel_rfl)
            · intro us W K hE hd hK
              have d7 := hd 7 (by kernel_rfl)
              dsimp only at hK ⊢
              rw [d7] at hK ⊢
              have HK := Lib.hid hK; have HE := Lib.hid hE
              clear hK hd hE d7
              go_wp2_with fail
              exact K_at (HK.out (.pointer (some ⟨p3, 0, none⟩)) W (fun _ _ => rfl) (Ext.refl W)) (by kernel_rfl)
            · intro us W K hE hd hK
              have d7 := hd 7 (by kernel_rfl)
              have d9 := hd 9 (by kernel_rfl)
              have c0 := (D6.out.ext (ext_undrew hE)).cell 0
              simp only [pkC, List.getElem?_cons_zero, List.getElem?_cons_succ] at c0
              dsimp only at hK ⊢
              rw [d7, d9] at hK ⊢
              have HK := Lib.hid hK; have HE := Lib.hid hE
              clear hK hd hE d7 d9
              go_wp2_with fail
              exact K_at (HK.out (.int .i64 s) W (fun _ _ => rfl) (Ext.refl W)) (by kernel_rfl)
            · intro us W K hE hd hK
              have d7 := hd 7 (by kernel_rfl)
              have d8 := hd 8 (by kernel_rfl)
              have d10 := hd 10 (by kernel_rfl)
              dsimp only at hK ⊢
              rw [d7, d8, d10] at hK ⊢
              have HK := Lib.hid hK; have HE := Lib.hid hE
              clear hK hd hE d7 d8 d10
              go_wp2_with (go_loud (go_at_call 40; (with_reducible refine (HFD.out W (ext_undrew HE.out)).mono ?_); rintro e wx ⟨rfl, rfl⟩))
              exact K_at (HK.out (.int .i64 f) W (fun _ _ => rfl) (Ext.refl W)) (by kernel_rfl)
            · intro us W K hE hd hK
              have d7 := hd 7 (by kernel_rfl)
              have d11 := hd 11 (by kernel_rfl)
              dsimp only at hK ⊢
              rw [d7, d11] at hK ⊢
              have HK := Lib.hid hK; have HE := Lib.hid hE
              clear hK hd hE d7 d11
              go_wp2_with fail
              rw [← HBF.out]
              exact K_at (HK.out (.bool bf) W (fun _ _ => rfl) (Ext.refl W)) (by kernel_rfl)
            · intro us W K hE hd hK
              have d7 := hd 7 (by kernel_rfl)
              have d12 := hd 12 (by kernel_rfl)
              dsimp only at hK ⊢
              rw [d7, d12] at hK ⊢
              have HK := Lib.hid hK; have HE := Lib.hid hE
              clear hK hd hE d7 d12
              go_wp2_with fail
              exact K_at (HK.out (.bool bf) W (fun _ _ => rfl) (Ext.refl W)) (by kernel_rfl)
          · intro us W hE hd
            try dsimp only
            have d13 := hd 13 (by decide)
            simp only [List.drop_succ_cons, List.drop_zero]
            rw [d13]
            have E6W := Lib.hid (ext_undrew hE)
            clear hd hE d13
            cases bf with
            | true =>
              have hP : RES = (([], 0), owesR (ackR R a)) := by rw [HRES.out]; unfold pktR; rw [← HSN.out, ← HGT.out, if_neg (fun h => h.elim hf1 hf2), if_neg HS0.out, if_pos (Or.inr (by rw [← HF.out]; exact of_decide_eq_true HBF.out.symm))]
              have HPP := Lib.hid hP
              clear hP
              go_wp2_with fail
              go_ret2
              refine HRE.out _ _ ?_
              rw [HPP.out]
              exact rin_nil (I6.out.ext E6W.out) (K6.out.trans (Kept.of_ext E6W.out)) HFM.out HFT.out
            | false =>
              have hP : RES = (((rdel (R.held.length + 1) (putR (owesR (ackR R a)) s m) []).1, 0), (rdel (R.held.length + 1) (putR (owesR (ackR R a)) s m) []).2) := by rw [HRES.out]; unfold pktR; rw [← HSN.out, ← HGT.out, if_neg (fun h => h.elim hf1 hf2), if_neg HS0.out, if_neg (fun h => h.elim hsg (by rw [← HF.out]; exact of_decide_eq_false HBF.out.symm))]
              have HPP := Lib.hid hP
              clear hP
              have I7 := Lib.hid (I6.out.ext E6W.out)
              have K7 := Lib.hid (K6.out.trans (Kept.of_ext E6W.out))
              have D7 := Lib.hid (D6.out.ext E6W.out)
              clear I6 K6 D6 E6W HFD hd1
              obtain ⟨w7, rfl⟩ : ∃ x : World, x = W := ⟨_, rfl⟩
              obtain ⟨i1, hi1, hy0, hy1, hy2⟩ := info_parts info_held
              obtain ⟨i0, hi, hz0, hz1, hz2⟩ := info_parts u8_bytes
              obtain ⟨F, hF⟩ : ∃ F : Nat → Prop, F = fun b => (Value.slice HA nh hc').ownBlock = some b := ⟨_, rfl⟩
              have HFG : Hid (∀ W w8 : World, W.grownBy w8 (Value.slice HA nh hc').ownBlock → Kept F W w8) := Lib.hid (fun W w8 h => Kept.of_grown h (fun b hb _ => by rw [hF]; exact hb))
              have HROW : Hid (w7.ownsRow 0 78 2 (.slice HA nh hc') nh (heldC hs)) := Lib.hid (by rw [HNH.out]; exact I7.out.hrow)
              have HC5 : Hid (∀ W, Ext w7 W → W.cell? ⟨p, 5, none⟩ = some (.slice HA nh hc')) := Lib.hid (fun W hW => by rw [HNH.out]; exact (I7.out.blk.ext hW).cell 5)
              have HG5 : Hid (∀ W W2, Ext w7 W → W.grownBy W2 (Value.slice HA nh hc').ownBlock → W2.cell? ⟨p, 5, none⟩ = some (.slice HA nh hc') ∧ W2.frozen? ⟨p, 5, none⟩ = false) := Lib.hid (fun W W2 hW hg => by
                rw [HNH.out] at hg ⊢
                have hb := (Kept.of_grown (F := fun b => (Value.slice HA R.held.length hc').ownBlock = some b) hg (fun b hb _ => hb)).blk (I7.out.blk.ext hW) I7.out.np.2.1
                exact ⟨hb.cell 5, hb.frozen 5⟩)
              have HD7 : Hid (∀ W, Kept F w7 W → W.cell? ⟨p3, 0, none⟩ = some (.int .i64 s) ∧ W.cell? ⟨p3, 2, none⟩ = some (.slice (some ⟨gm, 0, none⟩) m.length c2)) := Lib.hid (fun W hW => by
                have hb := hW.blk D7.out (fun h => by rw [hF] at h; exact row_blk_ne D7.out HROW.out (by decide) h)
                exact ⟨hb.cell 0, hb.cell 2⟩)
              clear hF
              go_upto_region 17 with fail
              refine wp_region_flowU 12 11 _ (fun i => i == 0 || i == 1 || i == 2 || i == 3 || i == 5 || i == 6 || i == 7 || i == 8 || i == 9) ?F17 (fun us => ?_) (by kernel_rfl) (by kernel_rfl) rfl (Kept F) Ext Ext.refl Kept.of_ext (fun h1 h2 => h1.trans h2) (fun h1 h2 => h1.next h2) (fun i v W => match i with
                | 0 => v = .pointer (some ⟨p, 0, none⟩)
                | 1 => v = .pointer (some ⟨p, 0, none⟩)
                | 2 => v = .pointer (some ⟨p, 0, none⟩)
                | 3 => v = .pointer (some ⟨p, 5, none⟩)
                | 4 => v = .slice HA nh hc'
                | 5 => v = .pointer (some ⟨p3, 0, none⟩)
                | 6 => v = .int .i64 s
                | 7 => v = .pointer (some ⟨p3, 2, none⟩)
                | 8 => v = .slice (some ⟨gm, 0, none⟩) m.length c2
                | 9 => v = .agg #[.int .i64 s, .slice (some ⟨gm, 0, none⟩) m.length c2]
                | 10 => ∃ g, v = .slice (some ⟨g, 0, none⟩) 1 1 ∧ Blk W g 78 [.int .i64 s, .slice (some ⟨gm, 0, none⟩) m.length c2]
                | 11 => ∃ W7, Ext w7 W7 ∧ W.ownsRow 0 78 2 v (nh + 1) (heldC hs ++ [.int .i64 s, .slice (some ⟨gm, 0, none⟩) m.length c2]) ∧ W7.grownBy W (Value.slice HA nh hc').ownBlock ∧ (v.ownBlock = (Value.slice HA nh hc').ownBlock ∨ v.ownBlock = some W7.heap.size)
                | _ => True) ?_ ?_
              case refine_1 =>
                simp only [List.take_succ_cons, List.take_zero, flowAct, Nat.zero_add, Nat.reduceAdd, Act.put, List.setIfInBounds_toArray, List.set_cons_succ, List.set_cons_zero]
                rfl
              · simp only [List.take_succ_cons, List.take_zero, flowStepsU]
                refine ⟨?_, ?_, ?_, ?_, ?_, ?_, ?_, ?_, ?_, ?_, ?_, ?_, trivial⟩
                · intro us W K hE1 hE2 hd hK
                  simp only [Nat.reduceBEq, Bool.not_true, Bool.not_false, Bool.or_true, Bool.or_false, Bool.true_or, Bool.false_or, cond_true, cond_false] at hK ⊢
                  have HK := Lib.hid hK; have HE1 := Lib.hid hE1
                  clear hK hd hE1 hE2
                  go_wp2_with fail
                  exact K_at (HK.out (.pointer (some ⟨p, 0, none⟩)) W (fun _ _ => rfl) (Ext.refl W)) (by kernel_rfl)
                · intro us W K hE1 hE2 hd hK
                  simp only [Nat.reduceBEq, Bool.not_true, Bool.not_false, Bool.or_true, Bool.or_false, Bool.true_or, Bool.false_or, cond_true, cond_false] at hK ⊢
                  have HK := Lib.hid hK; have HE1 := Lib.hid hE1
                  clear hK hd hE1 hE2
                  go_wp2_with fail
                  exact K_at (HK.out (.pointer (some ⟨p, 0, none⟩)) W (fun _ _ => rfl) (Ext.refl W)) (by kernel_rfl)
                · intro us W K hE1 hE2 hd hK
                  have d1 := hd 1 (by kernel_rfl) (by kernel_rfl)
                  simp only [Nat.reduceBEq, Bool.not_true, Bool.not_false, Bool.or_true, Bool.or_false, Bool.true_or, Bool.false_or, cond_true, cond_false] at hK ⊢
                  rw [d1] at hK ⊢
                  have HK := Lib.hid hK; have HE1 := Lib.hid hE1
                  clear hK hd hE1 hE2 d1
                  go_wp2_with fail
                  exact K_at (HK.out (.pointer (some ⟨p, 0, none⟩)) W (fun _ _ => rfl) (Ext.refl W)) (by kernel_rfl)
                · intro us W K hE1 hE2 hd hK
                  have d2 := hd 2 (by kernel_rfl) (by kernel_rfl)
                  simp only [Nat.reduceBEq, Bool.not_true, Bool.not_false, Bool.or_true, Bool.or_false, Bool.true_or, Bool.false_or, cond_true, cond_false] at hK ⊢
                  rw [d2] at hK ⊢
                  have HK := Lib.hid hK; have HE1 := Lib.hid hE1
                  clear hK hd hE1 hE2 d2
                  go_wp2_with fail
                  exact K_at (HK.out (.pointer (some ⟨p, 5, none⟩)) W (fun _ _ => rfl) (Ext.refl W)) (by kernel_rfl)
                · intro us W K hE1 hE2 hd hK
                  have hE := hE2 (by kernel_rfl)
                  have d3 := hd 3 (by kernel_rfl) (by kernel_rfl)
                  have c0 := HC5.out W (ext_undrew hE)
                  simp only [Nat.reduceBEq, Bool.not_true, Bool.not_false, Bool.or_true, Bool.or_false, Bool.true_or, Bool.false_or, cond_true, cond_false] at hK ⊢
                  rw [d3] at hK ⊢
                  have HK := Lib.hid hK; have HE1 := Lib.hid hE1
                  have HE := Lib.hid hE
                  clear hE
                  clear hK hd hE1 hE2 d3
                  go_wp2_with fail
                  exact K_at (HK.out (.slice HA nh hc') W (fun _ _ => rfl) (Ext.refl W)) (by kernel_rfl)
                · intro us W K hE1 hE2 hd hK
                  simp only [Nat.reduceBEq, Bool.not_true, Bool.not_false, Bool.or_true, Bool.or_false, Bool.true_or, Bool.false_or, cond_true, cond_false] at hK ⊢
                  have HK := Lib.hid hK; have HE1 := Lib.hid hE1
                  clear hK hd hE1 hE2
                  go_wp2_with fail
                  exact K_at (HK.out (.pointer (some ⟨p3, 0, none⟩)) W (fun _ _ => rfl) (Ext.refl W)) (by kernel_rfl)
                · intro us W K hE1 hE2 hd hK
                  have d5 := hd 5 (by kernel_rfl) (by kernel_rfl)
                  have c0 := (HD7.out W ((Kept.drew F w7).trans hE1)).1
                  simp only [Nat.reduceBEq, Bool.not_true, Bool.not_false, Bool.or_true, Bool.or_false, Bool.true_or, Bool.false_or, cond_true, cond_false] at hK ⊢
                  rw [d5] at hK ⊢
                  have HK := Lib.hid hK; have HE1 := Lib.hid hE1
                  clear hK hd hE1 hE2 d5
                  go_wp2_with fail
                  exact K_at (HK.out (.int .i64 s) W (fun _ _ => rfl) (Ext.refl W)) (by kernel_rfl)
                · intro us W K hE1 hE2 hd hK
                  simp only [Nat.reduceBEq, Bool.not_true, Bool.not_false, Bool.or_true, Bool.or_false, Bool.true_or, Bool.false_or, cond_true, cond_false] at hK ⊢
                  have HK := Lib.hid hK; have HE1 := Lib.hid hE1
                  clear hK hd hE1 hE2
                  go_wp2_with fail
                  exact K_at (HK.out (.pointer (some ⟨p3, 2, none⟩)) W (fun _ _ => rfl) (Ext.refl W)) (by kernel_rfl)
                · intro us W K hE1 hE2 hd hK
                  have d7 := hd 7 (by kernel_rfl) (by kernel_rfl)
                  have c0 := (HD7.out W ((Kept.drew F w7).trans hE1)).2
                  simp only [Nat.reduceBEq, Bool.not_true, Bool.not_false, Bool.or_true, Bool.or_false, Bool.true_or, Bool.false_or, cond_true, cond_false] at hK ⊢
                  rw [d7] at hK ⊢
                  have HK := Lib.hid hK; have HE1 := Lib.hid hE1
                  clear hK hd hE1 hE2 d7
                  go_wp2_with fail
                  exact K_at (HK.out (.slice (some ⟨gm, 0, none⟩) m.length c2) W (fun _ _ => rfl) (Ext.refl W)) (by kernel_rfl)
                · intro us W K hE1 hE2 hd hK
                  have d6 := hd 6 (by kernel_rfl) (by kernel_rfl)
                  have d8 := hd 8 (by kernel_rfl) (by kernel_rfl)
                  simp only [Nat.reduceBEq, Bool.not_true, Bool.not_false, Bool.or_true, Bool.or_false, Bool.true_or, Bool.false_or, cond_true, cond_false] at hK ⊢
                  rw [d6, d8] at hK ⊢
                  have HK := Lib.hid hK; have HE1 := Lib.hid hE1
                  clear hK hd hE1 hE2 d6 d8
                  go_wp2_with fail
                  exact K_at (HK.out (.agg #[.int .i64 s, .slice (some ⟨gm, 0, none⟩) m.length c2]) W (fun _ _ => rfl) (Ext.refl W)) (by kernel_rfl)
                · intro us W K hE1 hE2 hd hK
                  have hE := hE2 (by kernel_rfl)
                  have d9 := hd 9 (by kernel_rfl) (by kernel_rfl)
                  simp only [Nat.reduceBEq, Bool.not_true, Bool.not_false, Bool.or_true, Bool.or_false, Bool.true_or, Bool.false_or, cond_true, cond_false] at hK ⊢
                  rw [d9] at hK ⊢
                  have HK := Lib.hid hK; have HE1 := Lib.hid hE1
                  have HE := Lib.hid hE
                  clear hE
                  clear hK hd hE1 hE2 d9
                  go_wp2_with fail
                  exact K_at (HK.out (.slice (some ⟨W.heap.size, 0, none⟩) 1 1) (W.alloc (.cells #[.int .i64 s, .slice (some ⟨gm, 0, none⟩) m.length c2] 78)) (fun W2 h2 => ⟨_, rfl, (Blk.fresh W 78 [.int .i64 s, .slice (some ⟨gm, 0, none⟩) m.length c2]).ext h2⟩) ((Ext.refl W).alloc _)) (by kernel_rfl)
                · intro us W K hE1 hE2 hd hK
                  have hE := hE2 (by kernel_rfl)
                  have d4 := hd 4 (by kernel_rfl) (by kernel_rfl)
                  obtain ⟨g10, d10, b10⟩ := hd 10 (by kernel_rfl) (by kernel_rfl)
                  have E7 : Hid (Ext w7 W) := Lib.hid (ext_undrew hE)
                  have HR : Hid (W.ownsRow 0 78 2 (.slice HA nh hc') nh (heldC hs)) := Lib.hid (own_ext E7.out HROW.out)
                  have B10 := Lib.hid b10
                  simp only [Nat.reduceBEq, Bool.not_true, Bool.not_false, Bool.or_true, Bool.or_false, Bool.true_or, Bool.false_or, cond_true, cond_false] at hK ⊢
                  rw [d4, d10] at hK ⊢
                  have HK := Lib.hid hK; have HE1 := Lib.hid hE1
                  have HE := Lib.hid hE
                  clear hE
                  clear hK hd hE1 hE2 d4 d10 b10
                  go_wp2_with (at_builtin; refine wpList_append_own_at _ rfl (.tmp 94) (.tmp 100) 29 rfl 0 78 i1 (.agg #[.int .i64 0, .slice none 0 0]) 2 32 Try.underlying29 hi1 hy0 hy1 hy2 rfl (by omega) (.slice HA nh hc') nh (heldC hs) rfl HR.out ⟨g10, 0, none⟩ 1 1 [.int .i64 s, .slice (some ⟨gm, 0, none⟩) m.length c2] rfl rfl (blk_adds B10.out) (by simp [Value.oneCell']) (by simp only [maxLen]; omega) (by omega) (Nat.zero_le _) ?_; intro v8 w8 ho8 hg8 hn8 hat8)
                  exact K_at (HK.out (v8) w8 (fun W2 h2 => ⟨W, E7.out, own_ext h2 ho8, grown_ext hg8 h2, hat8⟩) (HFG.out _ _ hg8)) (by kernel_rfl)
              · intro us W hE1 hd
                try dsimp only
                obtain ⟨W7, h7E, ho8, hg8, hat8⟩ := hd 11 (by decide) (by kernel_rfl)
                have d0 := hd 0 (by decide) (by kernel_rfl)
                obtain ⟨A8, q8, d8⟩ := own_slice ho8 (Nat.succ_pos _)
                rw [d8] at ho8 hat8
                simp only [List.drop_succ_cons, List.drop_zero]
                rw [d0, d8]
                obtain ⟨c5, f5⟩ := HG5.out W7 W h7E hg8
                have E7 := Lib.hid h7E; have HO8 := Lib.hid ho8; have HG8 := Lib.hid hg8; have HA8 := Lib.hid hat8
                clear ho8 hg8 hat8 h7E hE1 hd d0 d8
                go_upto_region 18 with fail
                obtain ⟨w8, hw8⟩ : ∃ x, x = W.setCell ⟨p, 5, none⟩ (.slice A8 (nh + 1) q8) := ⟨_, rfl⟩
                rw [← hw8]
                have I8 : Hid (IsRef (mnew Mu w4) w8 p (putR (owesR (ackR R a)) s m) (.slice SA R.sent.length sc) (.slice A8 (nh + 1) q8) vs (hs ++ [(s, .slice (some ⟨gm, 0, none⟩) m.length c2)])) := Lib.hid (by
                  rw [hw8]
                  refine I7.out.puts HP4.out HFH.out E7.out (by rw [← HNH.out]; exact HG8.out) (by have h := HO8.out; rw [HNH.out] at h ⊢; exact h) ?_ (by unfold in64; omega) (by show R.held.length < 1000; rw [← HNH.out]; exact hhl2) (by show R.got + R.held.length < 1000000000; rw [← HNH.out, ← HGT.out]; exact hgot2)
                  exact HM4.out.keep K7.out (fun b hb => Or.inl (HFM.out b hb)) (fun _ _ h => h))
                have HH8 : Hid (∀ b, (Value.slice A8 (nh + 1) q8).ownBlock = some b → Ft b ∨ w4.heap.size ≤ b) := Lib.hid (fun b hb => by
                  rcases HA8.out with h | h
                  · rw [h] at hb; exact Or.inl (HFT.out b (Or.inr (Or.inr (by rw [← HNH.out]; exact hb))))
                  · rw [h] at hb; injection hb with hb; exact Or.inr (by have := K7.out.size; have := E7.out.size; omega))
                have K8 : Hid (Kept Ft w4 w8) := Lib.hid (by
                  rw [hw8]
                  refine ((K7.out.trans (Kept.of_ext E7.out)).trans ((Kept.of_grown (F := Ft) HG8.out (fun b hb _ => HFT.out b (Or.inr (Or.inr (by rw [← HNH.out]; exact hb))))))).trans (HKP.out 5 _ W))
                clear hw8 c5 f5 HG8 HO8 HA8 E7 I7 K7 D7 HC5 HG5 HROW HFG
                obtain ⟨RD, hRD⟩ : ∃ r, r = rdel (nh + 1) (putR (owesR (ackR R a)) s m) [] := ⟨_, rfl⟩
                have HPR : Hid (RES = ((RD.1, 0), RD.2)) := Lib.hid (by rw [HPP.out, hRD, HNH.out])
                have HRD := Lib.hid hRD
                obtain ⟨G, hG⟩ : ∃ g : Int, g = gt + (nh + 1) := ⟨_, rfl⟩
                have HGG := Lib.hid hG
                have HGB : Hid (0 ≤ G ∧ G ≤ 1000000000) := Lib.hid (by omega)
                obtain ⟨SVV, hSVV⟩ : ∃ v, v = Value.slice SA R.sent.length sc := ⟨_, rfl⟩
                have HSF : Hid (∀ b, SVV.ownBlock = some b → Ft b) := Lib.hid (fun b hb => HFT.out b (Or.inr (Or.inl (by rw [← hSVV]; exact hb))))
                rw [← hSVV] at I8
                clear HPP hRD hG D4 I4 HB HM4 HFH hSVV
                go_wp2_with fail
                go_loopw [10, 11, 12] (fun s10 s11 s12 wr => ∃ (R' : RefS) (HV' : Value) (hs' : List (Int × Value)) (OA : Option Addr) (oc no : Nat) (ovs : List Value) (oms : List (List Int)), s10 = .slice OA no oc ∧ oms.length = no ∧ wr.ownsRow w4.heap.size 33 1 (.slice OA no oc) no ovs ∧ Msgs (mnew Mu w4) wr ovs oms ∧ Kept Ft w4 wr ∧ IsRef (mnew Mu w4) wr p R' SVV HV' vs hs' ∧ (∀ b, HV'.ownBlock = some b → Ft b ∨ w4.heap.size ≤ b) ∧ rdel R'.held.length R' oms = RD ∧ R'.got + R'.held.length = G ∧ no + R'.held.length = nh + 1) (fun _ _ _ wr => G.toNat - (intOf ((wr.cell? ⟨p, 4, none⟩).getD undef)).toNat)
                case atStart =>
                  have hl : (putR (owesR (ackR R a)) s m).held.length = nh + 1 := by simp [putR, owesR, ackR, HNH.out]
                  refine ⟨_, _, _, none, 0, 0, [], [], rfl, rfl, World.ownsRow_nil _ _ _ _, Msgs.nil _ _, K8.out, I8.out, HH8.out, ?_, ?_, ?_⟩
                  · rw [hl, HRD.out]
                  · rw [hl, HGG.out, HGT.out]; rfl
                  · rw [hl]; omega
                case round =>
                  obtain ⟨R', HV', hs', OA, oc, no, ovs, oms, rfl, hno, ho, hms, hkr, I, hHV, hrd, hgg, hnn⟩ := hrel
                  obtain ⟨wo, rfl⟩ : ∃ x : World, x = wr := ⟨_, rfl⟩
                  obtain ⟨HA', hcp, hHV', hh1, hh2⟩ := own_form I.hrow
                  subst hHV'
                  obtain ⟨k, hkk⟩ : ∃ k, k = R'.held.length := ⟨_, rfl⟩
                  obtain ⟨d, hd⟩ : ∃ k, k = R'.got := ⟨_, rfl⟩
                  obtain ⟨f, hf⟩ : ∃ f, f = rfind (keysR R') (R'.got + 1) := ⟨_, rfl⟩
                  have hfb := rfind_bd (keysR R') (R'.got + 1)
                  rw [← hf, show (keysR R').length = k by rw [hkk]; simp [keysR]] at hfb
                  obtain ⟨hfb1, hfb2⟩ := hfb
                  have HFD : Hid (Calls Try.prog 40 #[.pointer (some ⟨p, 0, none⟩), .int .i64 (d + 1)] wo fun e w' => e = .returned (.int .i64 f) ∧ wo = w') := Lib.hid (rfind_any _ p _ _ _ vs hs' wo I (d + 1) f (by rw [hf, hd]; rfl))
                  have d0 : 0 ≤ d := by rw [hd]; exact I.ok.g0
                  have d1 : d ≤ 1000000000 := by rw [hd]; have := HGB.out; omega
                  have hk1000 : k ≤ nh + 1 := by rw [hkk]; omega
                  have hno2 : no ≤ nh + 1 := by omega
                  have c4 : wo.cell? ⟨p, 4, none⟩ = some (.int .i64 d) := by rw [hd]; exact I.blk.cell 4
                  have c5 : wo.cell? ⟨p, 5, none⟩ = some (.slice HA' k hcp) := by rw [hkk]; exact I.blk.cell 5
                  have HO := Lib.hid ho; have HMS := Lib.hid hms; have HK := Lib.hid hkr; have HIR := Lib.hid I; have HHV := Lib.hid hHV; have HRR := Lib.hid hrd; have HG2 := Lib.hid hgg; have HN2 := Lib.hid hnn; have HNO := Lib.hid hno; have HKK := Lib.hid hkk; have HD := Lib.hid hd; have HF2 := Lib.hid hf
                  rw [← hkk] at hh1
                  clear ho hms hkr I hHV hrd hgg hnn hno hkk hd hf
                  by_cases hf0 : f < 0
                  · have hge : decide (0 ≤ f) = false := decide_eq_false (by omega)
                    go_wp2_with (go_loud (go_at_call 40; (with_reducible refine HFD.out.mono ?_); rintro e wx ⟨rfl, rfl⟩))
                    go_ret2
                    refine HRE.out _ _ ?_
                    have e : RD = (oms, R') := by rw [← HRR.out]; exact rdel_stop (by rw [← HF2.out]; exact hf0) _ _
                    rw [HPR.out, e]
                    exact rin_done HIR.out HK.out HFM.out (fun b hb => Nat.lt_of_lt_of_le (HML.out b hb) E4.out.size) (HFT.out p (Or.inl rfl)) HSF.out HHV.out HO.out HNO.out HMS.out
                  · obtain ⟨i, hi'⟩ : ∃ i : Nat, (i : Int) = f := ⟨f.toNat, by omega⟩
                    subst hi'
                    have hik : i < k := by omega
                    have hlen : hs'.length = k := by rw [HKK.out]; have := congrArg List.length HIR.out.hks; simpa using this
                    obtain ⟨g, hg, hgw, hcell⟩ : ∃ g, HA' = some ⟨g, 0, none⟩ ∧ g < wo.heap.size ∧ wo.cell? ⟨g, i * 2 + 1, none⟩ = some (hs'[i]'(by omega)).2 := by
                      obtain ⟨g, h1, _, h2, h3⟩ := row2_at HIR.out.hrow (by rw [← HKK.out]; omega)
                      exact ⟨g, h1, h2, (h3 i _ (List.getElem?_eq_getElem _)).2⟩
                    subst hg
                    obtain ⟨msg, hmsg⟩ : ∃ l, l = (R'.held.getD i (0, [])).2 := ⟨_, rfl⟩
                    obtain ⟨hb1, hb2, BA, bc, hv, hb3, hb4, hb5⟩ : Msg (mnew Mu w4) wo (hs'[i]'(by omega)).2 msg := by
                      have h := HIR.out.hms.2 i (by rw [List.length_map, ← HKK.out]; exact hik)
                      have e1 : (hs'.map (·.2)).getD i undef = (hs'[i]'(by omega)).2 := by rw [List.getD_eq_getElem?_getD, List.getElem?_map, List.getElem?_eq_getElem (by omega)]; rfl
                      have e2 : (R'.held.map (·.2)).getD i [] = msg := by rw [hmsg, List.getD_eq_getElem?_getD, List.getElem?_map, List.getD_eq_getElem?_getD, List.getElem?_eq_getElem (by rw [← HKK.out]; exact hik)]; rfl
                      rw [e1, e2] at h
                      exact h
                    rw [hv] at hcell
                    obtain ⟨ml, hml2⟩ : ∃ x, x = msg.length := ⟨_, rfl⟩
                    have HVM : Hid (Msg (mnew Mu w4) wo (.slice BA ml bc) msg) := Lib.hid ⟨hb1, hb2, BA, bc, by rw [hml2], hb3, hb4, hb5⟩
                    rw [← hml2] at hcell
                    have HMG := Lib.hid hmsg; have HLEN := Lib.hid hlen
                    clear hv hb1 hb2 hb3 hb4 hb5 hml2 hmsg hlen hf0
                    have HDJ : Hid (∀ b, (Value.slice OA no oc).ownBlock = some b → mnew Mu w4 b ∧ ¬ ftR p SVV (.slice (some ⟨g, 0, none⟩) R'.held.length hcp) b) := Lib.hid (fun b hb => by
                      have h1 := own_ge HO.out hb
                      refine ⟨Or.inr h1, fun h => ?_⟩
                      rcases h with rfl | h | h
                      · have := HPL.out; have := E4.out.size; omega
                      · have h2 := HML.out _ (HFM.out _ (HSF.out b h)); have := E4.out.size; omega
                      · exact own_tag HO.out HIR.out.hrow (by decide) hb h)
                    have HIW : Hid (∀ W, Kept (fun b => (Value.slice OA no oc).ownBlock = some b) wo W → IsRef (mnew Mu w4) W p R' SVV (.slice (some ⟨g, 0, none⟩) R'.held.length hcp) vs hs') := Lib.hid (fun W hW => HIR.out.frame hW (fun b hb => (HDJ.out b hb).1) (fun b hb => (HDJ.out b hb).2))
                    have HCW : Hid (∀ W, Kept (fun b => (Value.slice OA no oc).ownBlock = some b) wo W → (W.cell? ⟨p, 4, none⟩ = some (.int .i64 d) ∧ W.cell? ⟨p, 5, none⟩ = some (.slice (some ⟨g, 0, none⟩) k hcp)) ∧ W.frozen? ⟨p, 4, none⟩ = false ∧ W.frozen? ⟨p, 5, none⟩ = false) := Lib.hid (fun W hW => by
                      have hb := (HIW.out W hW).blk
                      exact ⟨⟨by rw [HD.out]; exact hb.cell 4, by rw [HKK.out]; exact hb.cell 5⟩, hb.frozen 4, hb.frozen 5⟩)
                    have HRT : Hid (∀ W, Kept (fun b => (Value.slice OA no oc).ownBlock = some b) wo W → RdN W W.heap.size 2 (some ⟨g, 0, none⟩) i (heldC (hs'.take i)) ∧ RdN W W.heap.size 2 (some ⟨g, (i + 1) * 2, none⟩) (k - (i + 1)) (heldC (hs'.drop (i + 1)))) := Lib.hid (fun W hW => by
                      have hr := (HIW.out W hW).hrow
                      have hgl : g < W.heap.size := (hr.lt g rfl).2
                      have hc : ∀ j u, (heldC hs')[j]? = some u → W.cell? ⟨g, j, none⟩ = some u := fun j u hj => by
                        have := hr.cells (g := g) rfl j u hj
                        rwa [add_at] at this
                      have hl := HLEN.out
                      refine ⟨⟨by rw [heldC_length, List.length_take]; congr 1; omega, fun _ => ⟨g, 0, rfl, hgl, fun j u hj => ?_⟩⟩, ⟨by rw [heldC_length, List.length_drop, hl], fun _ => ⟨g, _, rfl, hgl, fun j u hj => ?_⟩⟩⟩
                      · rw [← heldC_take, List.getElem?_take] at hj
                        split at hj
                        · rw [Nat.zero_add]; exact hc j u hj
                        · cases hj
                      · rw [← heldC_drop, List.getElem?_drop] at hj
                        exact hc _ u hj)
                    have HON : Hid (∀ x ∈ hs', x.2.oneCell' = true) := Lib.hid (fun x hx => HIR.out.hms.one _ (List.mem_map_of_mem hx))
                    have HO1 : Hid (∀ u ∈ heldC (hs'.take i), u.oneCell' = true) := Lib.hid (heldC_one (fun x hx => HON.out x (List.mem_of_mem_take hx)))
                    have HO2 : Hid (∀ u ∈ heldC (hs'.drop (i + 1)), u.oneCell' = true) := Lib.hid (heldC_one (fun x hx => HON.out x (List.mem_of_mem_drop hx)))
                    have hszw : w4.heap.size ≤ wo.heap.size := HK.out.size
                    have hszw2 : w4.heap.size ≤ (wo.alloc (.cells #[.slice BA ml bc] 33)).heap.size := by simp only [World.size_alloc]; omega
                    by_cases hcap : hcp = i + 1
                    · obtain rfl : k = i + 1 := by omega
                      have HDN : Hid (heldC (hs'.drop (i + 1)) = []) := Lib.hid (by rw [List.drop_of_length_le (by rw [HLEN.out]; exact Nat.le_refl _)]; rfl)
                      have HIX : Hid (R'.held.length = i + 1) := Lib.hid HKK.out.symm
                      subst hcap
                      go_wp2_with (go_loud (first
                        | (go_at_call 40; (with_reducible refine HFD.out.mono ?_); rintro e wx ⟨rfl, rfl⟩)
                        | (at_builtin; refine wpList_append_own_at _ rfl (.tmp 119) (.tmp 128) 28 rfl w4.heap.size 33 i0 (.slice none 0 0) 1 24 Try.underlying28 hi hz0 hz1 hz2 rfl (by omega) (.slice OA no oc) no ovs rfl (HO.out.alloc _) ⟨wo.heap.size, 0, none⟩ 1 1 [.slice BA ml bc] rfl rfl (blk_adds (Blk.fresh _ _ _)) (by simp [Value.oneCell']) (by simp only [maxLen]; omega) (by omega) hszw2 ?_; intro v5 w5 ho5 hg5 hn5 hat5; obtain ⟨A5, q5, e5⟩ := own_slice ho5 (Nat.succ_pos _); subst e5; have K5 := Lib.hid ((Kept.of_ext ((Ext.refl wo).alloc (.cells #[.slice BA ml bc] 33))).trans (Kept.of_grown (F := fun b => (Value.slice OA no oc).ownBlock = some b) hg5 (fun b hb _ => hb))); obtain ⟨⟨_, c5b⟩, _, _⟩ := HCW.out w5 K5.out; have HO5 := Lib.hid ho5; clear ho5 hg5 hn5 hat5)
                        | (at_builtin; refine wpList_app rfl (.tmp 130) (.tmp 136) 29 rfl w5.heap.size 78 i1 (.agg #[.int .i64 0, .slice none 0 0]) 2 32 Try.underlying29 hi1 hy0 hy1 hy2 rfl (by omega) none 0 0 [] rfl (World.ownsRow_nil _ _ _ _) w5.heap.size (some ⟨g, 0, none⟩) i _ (heldC (hs'.take i)) rfl (HRT.out w5 K5.out).1 HO1.out (by simp only [maxLen]; omega) (by omega) (Nat.le_refl _) ?_; rw [Nat.zero_add, List.nil_append]; intro A6 q6 w6 ho6 hg6; have E56 : Hid (Ext w5 w6) := Lib.hid ((Kept.of_grown (F := fun _ => False) hg6 (fun b hb _ => (by cases hb))).ext (fun _ h => h.elim)); have K6 := Lib.hid (K5.out.trans (Kept.of_ext E56.out)); obtain ⟨⟨_, c5c⟩, _, _⟩ := HCW.out w6 K6.out; have HO6 := Lib.hid ho6; clear ho6 hg6)
                        | (at_builtin; refine wpList_app rfl (.tmp 139) (.tmp 146) 29 rfl w5.heap.size 78 i1 (.agg #[.int .i64 0, .slice none 0 0]) 2 32 Try.underlying29 hi1 hy0 hy1 hy2 rfl (by omega) A6 i q6 (heldC (hs'.take i)) rfl HO6.out w6.heap.size _ _ _ [] rfl ⟨by simp, fun h => absurd h (by omega)⟩ (by simp) (by simp only [maxLen]; omega) (by omega) E56.out.size ?_; intro A7 q7 w7 ho7 hg7; have K57 := Lib.hid ((Kept.of_ext (F := fun _ => False) E56.out).next (Kept.of_grown (F := fun b => (Value.slice A6 i q6).ownBlock = some b) hg7 (fun b hb _ => hb)) (fun b hb h => by have := own_ge HO6.out h; omega)); have K7 := Lib.hid (K5.out.next K57.out (fun _ _ h => h.elim)); obtain ⟨⟨c4d, c5d⟩, f4d, f5d⟩ := HCW.out w7 K7.out; have HO7 := Lib.hid ho7; clear ho7 hg7)))
                      have I9 := (HIW.out w7 K7.out).steps (v := .slice A7 (i) q7) (i := i) (d := d + 1) HP4.out (by rw [← HKK.out]; exact hik) (base := w5.heap.size) (by have h := HO7.out; rw [HDN.out, HIX.out, Nat.sub_self]; exact h) (by rw [HD.out])
                      have K79 : Kept (fun b => b = p) w7 ((w7.setCell ⟨p, 5, none⟩ (.slice A7 (i) q7)).setCell ⟨p, 4, none⟩ (.int .i64 (d + 1))) := (Kept.setCell (F := fun b => b = p) (p := ⟨p, 5, none⟩) w7 rfl _).trans (Kept.setCell (F := fun b => b = p) (p := ⟨p, 4, none⟩) _ rfl _)
                      have K59 := (K57.out.mono (G := fun b => b = p) (fun _ _ h => h.elim)).trans K79
                      have K09 : Kept (fun b => (Value.slice OA no oc).ownBlock = some b ∨ b = p) wo ((w7.setCell ⟨p, 5, none⟩ (.slice A7 (i) q7)).setCell ⟨p, 4, none⟩ (.int .i64 (d + 1))) := (K7.out.mono (fun _ _ h => Or.inl h)).trans (K79.mono (fun _ _ h => Or.inr h))
                      have hM : ∀ b, ((Value.slice OA no oc).ownBlock = some b ∨ b = p) → mnew Mu w4 b := fun b hb => hb.elim (fun h => (HDJ.out b h).1) (fun h => by rw [h]; exact HP4.out)
                      have KF : Kept Ft w4 ((w7.setCell ⟨p, 5, none⟩ (.slice A7 (i) q7)).setCell ⟨p, 4, none⟩ (.int .i64 (d + 1))) := HK.out.next K09 (fun b hb h => h.elim (fun h => by have := own_ge HO.out h; omega) (fun h => by rw [h]; exact HFT.out p (Or.inl rfl)))
                      have O9 : ((w7.setCell ⟨p, 5, none⟩ (.slice A7 (i) q7)).setCell ⟨p, 4, none⟩ (.int .i64 (d + 1))).ownsRow w4.heap.size 33 1 (.slice A5 (no + 1) q5) (no + 1) (ovs ++ [.slice BA ml bc]) := K59.own HO5.out (fun b hb h => by have := own_ge HO5.out hb; have := HPL.out; have := E4.out.size; omega)
                      have M9 := (HMS.out.keep K09 hM (fun _ _ h => h)).snoc (HVM.out.keep K09 hM (fun _ _ h => h))
                      have hst := stepR_len (R := R') (i := i) (by rw [← HKK.out]; exact hik)
                      have hrr : rdel (stepR R' i).held.length (stepR R' i) (oms ++ [msg]) = RD := by
                        rw [← HRR.out, ← hst]
                        conv => rhs; unfold rdel
                        rw [← HF2.out, if_neg (by omega), Int.toNat_natCast, ← HMG.out]
                      have h10 := HKK.out; have h11 := HG2.out; have h12 := HN2.out; have h13 := HNO.out
                      have hgot9 : (stepR R' i).got + (stepR R' i).held.length = G := by
                        have : (stepR R' i).got = R'.got + 1 := rfl
                        omega
                      have HI9 := Lib.hid I9; have HKF := Lib.hid KF; have HO9 := Lib.hid O9; have HM9 := Lib.hid M9; have HR9 := Lib.hid hrr; have HG9 := Lib.hid hgot9; have HS9 := Lib.hid hst
                      have HMZ : Hid (intOf ((((w7.setCell ⟨p, 5, none⟩ (.slice A7 (i) q7)).setCell ⟨p, 4, none⟩ (.int .i64 (d + 1))).cell? ⟨p, 4, none⟩).getD undef) = d + 1) := Lib.hid (by
                        have := I9.blk.cell 4
                        rw [this]
                        show (stepR R' i).got = d + 1
                        rw [HD.out]; rfl)
                      have hGB := HGB.out
                      have hdG : d < G := by rw [HD.out]; omega
                      clear I9 K79 K59 K09 hM KF O9 M9 hst hrr hgot9 c4d c5d f4d f5d c5b c5c
                      go_roundw
                      case rel => exact ⟨stepR R' i, .slice A7 (i) q7, _, A5, q5, no + 1, _, _, rfl, (by simp [HNO.out]), HO9.out, HM9.out, HKF.out, HI9.out, fun b hb => Or.inr (by have := own_ge HO7.out hb; have h1 := K5.out.size; omega), HR9.out, HG9.out, by have := HS9.out; omega⟩
                      case measure => rw [HMZ.out, c4]; simp only [Option.getD_some, intOf]; omega
                    · go_wp2_with (go_loud (first
                        | (go_at_call 40; (with_reducible refine HFD.out.mono ?_); rintro e wx ⟨rfl, rfl⟩)
                        | (at_builtin; refine wpList_append_own_at _ rfl (.tmp 119) (.tmp 128) 28 rfl w4.heap.size 33 i0 (.slice none 0 0) 1 24 Try.underlying28 hi hz0 hz1 hz2 rfl (by omega) (.slice OA no oc) no ovs rfl (HO.out.alloc _) ⟨wo.heap.size, 0, none⟩ 1 1 [.slice BA ml bc] rfl rfl (blk_adds (Blk.fresh _ _ _)) (by simp [Value.oneCell']) (by simp only [maxLen]; omega) (by omega) hszw2 ?_; intro v5 w5 ho5 hg5 hn5 hat5; obtain ⟨A5, q5, e5⟩ := own_slice ho5 (Nat.succ_pos _); subst e5; have K5 := Lib.hid ((Kept.of_ext ((Ext.refl wo).alloc (.cells #[.slice BA ml bc] 33))).trans (Kept.of_grown (F := fun b => (Value.slice OA no oc).ownBlock = some b) hg5 (fun b hb _ => hb))); obtain ⟨⟨_, c5b⟩, _, _⟩ := HCW.out w5 K5.out; have HO5 := Lib.hid ho5; clear ho5 hg5 hn5 hat5)
                        | (at_builtin; refine wpList_app rfl (.tmp 130) (.tmp 136) 29 rfl w5.heap.size 78 i1 (.agg #[.int .i64 0, .slice none 0 0]) 2 32 Try.underlying29 hi1 hy0 hy1 hy2 rfl (by omega) none 0 0 [] rfl (World.ownsRow_nil _ _ _ _) w5.heap.size (some ⟨g, 0, none⟩) i _ (heldC (hs'.take i)) rfl (HRT.out w5 K5.out).1 HO1.out (by simp only [maxLen]; omega) (by omega) (Nat.le_refl _) ?_; rw [Nat.zero_add, List.nil_append]; intro A6 q6 w6 ho6 hg6; have E56 : Hid (Ext w5 w6) := Lib.hid ((Kept.of_grown (F := fun _ => False) hg6 (fun b hb _ => (by cases hb))).ext (fun _ h => h.elim)); have K6 := Lib.hid (K5.out.trans (Kept.of_ext E56.out)); obtain ⟨⟨_, c5c⟩, _, _⟩ := HCW.out w6 K6.out; have HO6 := Lib.hid ho6; clear ho6 hg6)
                        | (at_builtin; refine wpList_app rfl (.tmp 139) (.tmp 146) 29 rfl w5.heap.size 78 i1 (.agg #[.int .i64 0, .slice none 0 0]) 2 32 Try.underlying29 hi1 hy0 hy1 hy2 rfl (by omega) A6 i q6 (heldC (hs'.take i)) rfl HO6.out w6.heap.size (some ⟨g, (i + 1) * 2, none⟩) (k - (i + 1)) (hcp - (i + 1)) (heldC (hs'.drop (i + 1))) rfl (HRT.out w6 K6.out).2 HO2.out (by simp only [maxLen]; omega) (by omega) E56.out.size ?_; intro A7 q7 w7 ho7 hg7; have K57 := Lib.hid ((Kept.of_ext (F := fun _ => False) E56.out).next (Kept.of_grown (F := fun b => (Value.slice A6 i q6).ownBlock = some b) hg7 (fun b hb _ => hb)) (fun b hb h => by have := own_ge HO6.out h; omega)); have K7 := Lib.hid (K5.out.next K57.out (fun _ _ h => h.elim)); obtain ⟨⟨c4d, c5d⟩, f4d, f5d⟩ := HCW.out w7 K7.out; have HO7 := Lib.hid ho7; clear ho7 hg7)))
                      have I9 := (HIW.out w7 K7.out).steps (v := .slice A7 (i + (k - (i + 1))) q7) (i := i) (d := d + 1) HP4.out (by rw [← HKK.out]; exact hik) (base := w5.heap.size) (by have h := HO7.out; rw [← HKK.out]; exact h) (by rw [HD.out])
                      have K79 : Kept (fun b => b = p) w7 ((w7.setCell ⟨p, 5, none⟩ (.slice A7 (i + (k - (i + 1))) q7)).setCell ⟨p, 4, none⟩ (.int .i64 (d + 1))) := (Kept.setCell (F := fun b => b = p) (p := ⟨p, 5, none⟩) w7 rfl _).trans (Kept.setCell (F := fun b => b = p) (p := ⟨p, 4, none⟩) _ rfl _)
                      have K59 := (K57.out.mono (G := fun b => b = p) (fun _ _ h => h.elim)).trans K79
                      have K09 : Kept (fun b => (Value.slice OA no oc).ownBlock = some b ∨ b = p) wo ((w7.setCell ⟨p, 5, none⟩ (.slice A7 (i + (k - (i + 1))) q7)).setCell ⟨p, 4, none⟩ (.int .i64 (d + 1))) := (K7.out.mono (fun _ _ h => Or.inl h)).trans (K79.mono (fun _ _ h => Or.inr h))
                      have hM : ∀ b, ((Value.slice OA no oc).ownBlock = some b ∨ b = p) → mnew Mu w4 b := fun b hb => hb.elim (fun h => (HDJ.out b h).1) (fun h => by rw [h]; exact HP4.out)
                      have KF : Kept Ft w4 ((w7.setCell ⟨p, 5, none⟩ (.slice A7 (i + (k - (i + 1))) q7)).setCell ⟨p, 4, none⟩ (.int .i64 (d + 1))) := HK.out.next K09 (fun b hb h => h.elim (fun h => by have := own_ge HO.out h; omega) (fun h => by rw [h]; exact HFT.out p (Or.inl rfl)))
                      have O9 : ((w7.setCell ⟨p, 5, none⟩ (.slice A7 (i + (k - (i + 1))) q7)).setCell ⟨p, 4, none⟩ (.int .i64 (d + 1))).ownsRow w4.heap.size 33 1 (.slice A5 (no + 1) q5) (no + 1) (ovs ++ [.slice BA ml bc]) := K59.own HO5.out (fun b hb h => by have := own_ge HO5.out hb; have := HPL.out; have := E4.out.size; omega)
                      have M9 := (HMS.out.keep K09 hM (fun _ _ h => h)).snoc (HVM.out.keep K09 hM (fun _ _ h => h))
                      have hst := stepR_len (R := R') (i := i) (by rw [← HKK.out]; exact hik)
                      have hrr : rdel (stepR R' i).held.length (stepR R' i) (oms ++ [msg]) = RD := by
                        rw [← HRR.out, ← hst]
                        conv => rhs; unfold rdel
                        rw [← HF2.out, if_neg (by omega), Int.toNat_natCast, ← HMG.out]
                      have h10 := HKK.out; have h11 := HG2.out; have h12 := HN2.out; have h13 := HNO.out
                      have hgot9 : (stepR R' i).got + (stepR R' i).held.length = G := by
                        have : (stepR R' i).got = R'.got + 1 := rfl
                        omega
                      have HI9 := Lib.hid I9; have HKF := Lib.hid KF; have HO9 := Lib.hid O9; have HM9 := Lib.hid M9; have HR9 := Lib.hid hrr; have HG9 := Lib.hid hgot9; have HS9 := Lib.hid hst
                      have HMZ : Hid (intOf ((((w7.setCell ⟨p, 5, none⟩ (.slice A7 (i + (k - (i + 1))) q7)).setCell ⟨p, 4, none⟩ (.int .i64 (d + 1))).cell? ⟨p, 4, none⟩).getD undef) = d + 1) := Lib.hid (by
                        have := I9.blk.cell 4
                        rw [this]
                        show (stepR R' i).got = d + 1
                        rw [HD.out]; rfl)
                      have hGB := HGB.out
                      have hdG : d < G := by rw [HD.out]; omega
                      clear I9 K79 K59 K09 hM KF O9 M9 hst hrr hgot9 c4d c5d f4d f5d c5b c5c
                      go_roundw
                      case rel => exact ⟨stepR R' i, .slice A7 (i + (k - (i + 1))) q7, _, A5, q5, no + 1, _, _, rfl, (by simp [HNO.out]), HO9.out, HM9.out, HKF.out, HI9.out, fun b hb => Or.inr (by have := own_ge HO7.out hb; have h1 := K5.out.size; omega), HR9.out, HG9.out, by have := HS9.out; omega⟩
                      case measure => rw [HMZ.out, c4]; simp only [Option.getD_some, intOf]; omega
end Go.Proofs.Ytkgmoklifkojhaa
