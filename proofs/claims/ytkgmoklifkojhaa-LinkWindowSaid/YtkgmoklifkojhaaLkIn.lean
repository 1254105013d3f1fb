/- link's In: what it computes; the ways out that change little. Conditions: numbers below a bound. -/
import Derived.Test.YtkgmoklifkojhaaLkOut
set_option linter.unusedSimpArgs false
set_option linter.unusedVariables false
namespace Go.Proofs.Ytkgmoklifkojhaa
open Go.RowKit
def ackE (E : EndS) (a : Int) : EndS := if 0 < a - E.acked then { E with waiting := E.waiting.drop (a - E.acked).toNat, acked := a } else E
def owesE (E : EndS) : EndS := { E with owing := true }
def putE (E : EndS) (s : Int) (m : List Int) : EndS := if E.delivered < s ∧ E.held s = none then { E with held := fun j => if j = s then some m else E.held j, tot := E.tot + 1, cnt := E.cnt + 1 } else E
def pktIn (E : EndS) (s a : Int) (m : List Int) : (List (List Int) × Int) × EndS :=
  if E.acked + E.waiting.length < a ∨ E.delivered + 16 < s then (([], 0), E)
  else if s = 0 then (([], 0), ackE E a)
  else let E3 := putE (owesE (ackE E a)) s m
    (((deliverN E3.cnt E3 []).1, 0), (deliverN E3.cnt E3 []).2)
def inE (E : EndS) (x : List Int) : (List (List Int) × Int) × EndS :=
  if (openL E.key x).2 = 0 then
    match readL (openL E.key x).1 with
    | none => (([], 2), E)
    | some (s, a, m) => pktIn E s a m
  else (([], (openL E.key x).2), if (openL E.key x).2 = 9 then { E with forged := E.forged + 1 } else E)
def InPost (Mu Ft : Nat → Prop) (w : World) (p : Nat) (R : (List (List Int) × Int) × EndS) (e : Ending) (w' : World) : Prop :=
  ∃ OA oc k ovs, e = .returned (.tuple #[.slice OA k oc, .int .i64 R.1.2]) ∧ R.1.1.length = k ∧ w'.ownsRow w.heap.size 33 1 (.slice OA k oc) k ovs ∧ Msgs Mu w' ovs R.1.1 ∧ Kept Ft w w' ∧ EndAt Mu Ft w' p R.2
theorem in_nil {Mu Ft : Nat → Prop} {w w' : World} {p : Nat} {r : Int} {E : EndS} (hk : Kept Ft w w') (hE : EndAt Mu Ft w' p E) : InPost Mu Ft w p (([], r), E) (.returned (.tuple #[.slice none 0 0, .int .i64 r])) w' :=
  ⟨none, 0, 0, [], rfl, rfl, World.ownsRow_nil _ _ _ _, Msgs.nil _ _, hk, hE⟩
theorem openL_two (key : Int) (x : List Int) : (openL key x).2 = 0 ∨ ((openL key x).1 = [] ∧ ((openL key x).2 = 2 ∨ (openL key x).2 = 9)) := by
  unfold openL
  split
  · exact Or.inr ⟨rfl, Or.inl rfl⟩
  · split
    · exact Or.inl rfl
    · exact Or.inr ⟨rfl, Or.inr rfl⟩
theorem forged_plain {Mu Ft : Nat → Prop} {w W : World} {p : Nat} {E : EndS} {WA : Option Addr} {wc hm : Nat} {vs : List Value} {h : Int → Option Value} (hml : ∀ b, Mu b → b < w.heap.size) (I : IsEnd Mu Ft w p E WA wc hm vs h) (hE : Ext w W) (hf : E.forged < 1000000000) :
    Kept Ft w (W.setCell ⟨p, 7, none⟩ (.int .i64 (E.forged + 1))) ∧ EndAt Mu Ft (W.setCell ⟨p, 7, none⟩ (.int .i64 (E.forged + 1))) p { E with forged := E.forged + 1 } := by
  have I2 := I.ext hE
  have hk1 : Kept (fun b => b = p ∨ b = hm) W (W.setCell ⟨p, 7, none⟩ (.int .i64 (E.forged + 1))) := Kept.setCell (p := ⟨p, 7, none⟩) W (Or.inl rfl) _
  have hk : Kept Ft w (W.setCell ⟨p, 7, none⟩ (.int .i64 (E.forged + 1))) := (Kept.of_ext hE).trans (hk1.mono (fun b _ hb => hb.elim (fun h => by rw [h]; exact I.fp) (fun h => by rw [h]; exact I.fh)))
  have hM : ∀ b, (b = p ∨ b = hm) → Mu b := by
    rintro b (rfl | rfl)
    · exact I2.fm _ I.fp
    · exact I2.fm _ I.fh
  refine ⟨hk, fun b hb => Nat.lt_of_lt_of_le (hml b hb) hk.size, WA, wc, hm, vs, h, ?_⟩
  refine I2.change hk1 rfl ?_ (I2.map.kept (Kept.setCell (F := fun b => b = p) (p := ⟨p, 7, none⟩) W rfl _) (fun h => I2.map.ne_blk I2.blk h)) (fun i hi => (I2.held i hi).keep hk1 hM (fun _ _ h => h)) ?_
  · have := I2.blk.set 7 (.int .i64 (E.forged + 1))
    simpa [endC] using this
  · obtain ⟨o1, o2, o3, o4, o5, o6, o7, o8, o9, o10, o11, o12⟩ := I.ok
    constructor <;> simp <;> omega
theorem openL_len {key : Int} {x core : List Int} {e : Int} (h : openL key x = (core, e)) {n : Nat} (hx : x.length ≤ n) : core.length ≤ n := by
  unfold openL at h
  split at h
  · cases h; simp
  · split at h
    · cases h; rw [List.length_take]; omega
    · cases h; simp
set_option maxHeartbeats 4000000 in
set_option maxRecDepth 100000 in
theorem in_forged (Mu Ft : Nat → Prop) (p : Nat) (E : EndS) (x : List Int) (A : Option Addr) (n c : Nat) (w : World) (hE : EndAt Mu Ft w p E) (hl : Rd w w.heap.size A n (u8s x)) (hby : Byt x) (hn : n ≤ 1000000000) (hnc : n ≤ c) (hc : c ≤ 9223372036854775807) (hf : E.forged < 1000000000) (hop : openL E.key x = ([], 9)) :
    Calls Try.prog 19 #[.pointer (some ⟨p, 0, none⟩), .slice A n c] w fun e w' => InPost Mu Ft w p (inE E x) e w' := by
  have hR : inE E x = (([], 9), { E with forged := E.forged + 1 }) := by unfold inE; rw [hop]; rfl
  rw [hR]
  obtain ⟨hml, WA, wc, hm, vs, h, I⟩ := hE
  have ok := I.ok
  have HML := Lib.hid hml; have HI := Lib.hid I; have HL := Lib.hid hl; have HBY := Lib.hid hby
  obtain ⟨ky, hky⟩ : ∃ k, k = E.key := ⟨_, rfl⟩
  have hc1 : w.cell? ⟨p, 1, none⟩ = some (.int .u64 ky) := by rw [hky]; exact I.blk.cell 1
  have k0 : 0 ≤ ky := by rw [hky]; exact ok.k0
  have k1 : ky ≤ 18446744073709551615 := by rw [hky]; exact ok.k1
  have HKY := Lib.hid hky
  rw [← hky] at hop
  obtain ⟨fg, hfg⟩ : ∃ k, k = E.forged := ⟨_, rfl⟩
  have f0 : 0 ≤ fg := by rw [hfg]; exact ok.f0
  have f1 : fg < 1000000000 := by rw [hfg]; exact hf
  have HFG := Lib.hid hfg; have HF := Lib.hid hf
  have HOP := Lib.hid hop
  have HC7 : Hid (∀ W, Ext w W → W.cell? ⟨p, 7, none⟩ = some (.int .i64 fg) ∧ W.frozen? ⟨p, 7, none⟩ = false) := Lib.hid (fun W hW => ⟨by rw [hfg]; exact (I.blk.ext hW).cell 7, (I.blk.ext hW).frozen 7⟩)
  clear hml I hl hby ok hky hfg hf hop hR
  go_enter Try.func19, Try.ntmps19
  go_wp2_with (go_at_call 25; (with_reducible refine (open_any ky k0 k1 x A n c w HL.out HBY.out hn hnc hc).mono ?_); rintro e w1 ⟨⟨A1, c1, rfl, ho1⟩, hE1⟩; rw [HOP.out] at ho1 ⊢; have E1 := Lib.hid hE1; obtain ⟨cc7, ff7⟩ := HC7.out w1 hE1; clear ho1 hE1)
  go_ret2
  obtain ⟨q1, q2⟩ := forged_plain HML.out HI.out E1.out HF.out
  rw [HFG.out]
  exact in_nil q1 q2
set_option maxHeartbeats 4000000 in
set_option maxRecDepth 100000 in
theorem in_short (Mu Ft : Nat → Prop) (p : Nat) (E : EndS) (x : List Int) (A : Option Addr) (n c : Nat) (w : World) (hE : EndAt Mu Ft w p E) (hl : Rd w w.heap.size A n (u8s x)) (hby : Byt x) (hn : n ≤ 1000000000) (hnc : n ≤ c) (hc : c ≤ 9223372036854775807) (hop : openL E.key x = ([], 2)) :
    Calls Try.prog 19 #[.pointer (some ⟨p, 0, none⟩), .slice A n c] w fun e w' => InPost Mu Ft w p (inE E x) e w' := by
  have hR : inE E x = (([], 2), E) := by unfold inE; rw [hop]; rfl
  rw [hR]
  obtain ⟨hml, WA, wc, hm, vs, h, I⟩ := hE
  have ok := I.ok
  have HML := Lib.hid hml; have HI := Lib.hid I; have HL := Lib.hid hl; have HBY := Lib.hid hby
  obtain ⟨ky, hky⟩ : ∃ k, k = E.key := ⟨_, rfl⟩
  have hc1 : w.cell? ⟨p, 1, none⟩ = some (.int .u64 ky) := by rw [hky]; exact I.blk.cell 1
  have k0 : 0 ≤ ky := by rw [hky]; exact ok.k0
  have k1 : ky ≤ 18446744073709551615 := by rw [hky]; exact ok.k1
  have HKY := Lib.hid hky
  rw [← hky] at hop
  have HOP := Lib.hid hop
  clear hml I hl hby ok hky hop hR
  go_enter Try.func19, Try.ntmps19
  go_wp2_with (go_at_call 25; (with_reducible refine (open_any ky k0 k1 x A n c w HL.out HBY.out hn hnc hc).mono ?_); rintro e w1 ⟨⟨A1, c1, rfl, ho1⟩, hE1⟩; rw [HOP.out] at ho1 ⊢; have E1 := Lib.hid hE1;  clear ho1 hE1)
  go_ret2
  exact in_nil (Kept.of_ext E1.out) ⟨fun b hb => Nat.lt_of_lt_of_le (HML.out b hb) E1.out.size, WA, wc, hm, vs, h, HI.out.ext E1.out⟩
theorem own_cap {w : World} {b : Nat} {e : TypeId} {size : Nat} {A : Option Addr} {n c : Nat} {xs : List Value} (ho : w.ownsRow b e size (.slice A n c) n xs) : n ≤ c ∧ c ≤ 9223372036854775807 := by
  rcases ho.2 with ⟨h1, h2⟩ | ⟨g, cap, cur, h1, _, _, h4, h5, _⟩
  · injection h1 with _ _ h3; subst h3; omega
  · injection h1 with _ _ h3; subst h3; simp only [maxLen] at h5; omega
set_option maxHeartbeats 4000000 in
set_option maxRecDepth 100000 in
theorem in_none (Mu Ft : Nat → Prop) (p : Nat) (E : EndS) (x : List Int) (A : Option Addr) (n c : Nat) (w : World) (hE : EndAt Mu Ft w p E) (hl : Rd w w.heap.size A n (u8s x)) (hby : Byt x) (hn : n ≤ 1000000000) (hnc : n ≤ c) (hc : c ≤ 9223372036854775807) (core : List Int) (hop : openL E.key x = (core, 0)) (hrd : readL core = none) :
    Calls Try.prog 19 #[.pointer (some ⟨p, 0, none⟩), .slice A n c] w fun e w' => InPost Mu Ft w p (inE E x) e w' := by
  have hR : inE E x = (([], 2), E) := by unfold inE; rw [hop]; simp only [if_true, hrd]
  rw [hR]
  obtain ⟨hml, WA, wc, hm, vs, h, I⟩ := hE
  have ok := I.ok
  have HML := Lib.hid hml; have HI := Lib.hid I; have HL := Lib.hid hl; have HBY := Lib.hid hby
  obtain ⟨ky, hky⟩ : ∃ k, k = E.key := ⟨_, rfl⟩
  have hc1 : w.cell? ⟨p, 1, none⟩ = some (.int .u64 ky) := by rw [hky]; exact I.blk.cell 1
  have k0 : 0 ≤ ky := by rw [hky]; exact ok.k0
  have k1 : ky ≤ 18446744073709551615 := by rw [hky]; exact ok.k1
  have HKY := Lib.hid hky
  rw [← hky] at hop
  have HOP := Lib.hid hop; have HRN := Lib.hid hrd
  have HBC : Hid (Byt core) := Lib.hid (by have := openL_byt (key := ky) hby; rw [hop] at this; exact this)
  have HCL : Hid (core.length ≤ 1000000000) := Lib.hid (openL_len hop (by have := hl.1; simp [u8s] at this; omega))
  clear hml I hl hby ok hky hop hR hrd
  go_enter Try.func19, Try.ntmps19
  go_wp2_with (first
    | (go_at_call 25; (with_reducible refine (open_any ky k0 k1 x A n c w HL.out HBY.out hn hnc hc).mono ?_); rintro e w1 ⟨⟨A1, c1, rfl, ho1⟩, hE1⟩; rw [HOP.out] at ho1 ⊢; have E1 := Lib.hid hE1; obtain ⟨hcA, hcB⟩ := own_cap ho1; have HR1 := Lib.hid (own_rd ho1); have HC1 : Hid (core.length ≤ c1 ∧ c1 ≤ 9223372036854775807) := Lib.hid ⟨hcA, hcB⟩; clear hcA hcB; clear ho1 hE1)
    | (go_at_call 36; (with_reducible refine (read_any core A1 core.length c1 w1 HR1.out HBC.out HCL.out HC1.out.1 HC1.out.2).mono ?_); rintro e w2 ⟨⟨a2, b2, A2, k2, c2, rfl, hr2⟩, hE2⟩; rw [HRN.out] at hr2 ⊢; have E2 : Hid (Ext w w2) := Lib.hid (E1.out.next hE2);  clear hr2 hE2)
    | ((refine wpList_store_fresh rfl 68 (.tmp 8) (.tmp 37) rfl _ w2.heap.size rfl (pkC 0 0 none 0 0) (pkC a2 b2 A2 k2 c2) 68 (by rfl) (by rfl) rfl (info_pkt.trans rfl) rfl (pkC_one _ _ _ _ _) ?_); intro w3 hw3 hE3 hz3; have E3 : Hid (Ext w w3) := Lib.hid (E2.out.next hE3); have D3 := Lib.hid hw3; obtain ⟨p3, hp3⟩ : ∃ p, p = w2.heap.size := ⟨_, rfl⟩; rw [← hp3] at D3 ⊢; have HP3 : Hid (w.heap.size ≤ p3) := Lib.hid (by rw [hp3]; exact E2.out.size);  clear hw3 hz3 hp3 hE3))
  go_ret2
  exact in_nil (Kept.of_ext E3.out) ⟨fun b hb => Nat.lt_of_lt_of_le (HML.out b hb) E3.out.size, WA, wc, hm, vs, h, HI.out.ext E3.out⟩
end Go.Proofs.Ytkgmoklifkojhaa
