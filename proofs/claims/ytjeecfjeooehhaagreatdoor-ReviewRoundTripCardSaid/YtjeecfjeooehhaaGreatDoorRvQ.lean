/- slices.IndexFunc and ContainsFunc with Standing's closures. Conditions: the slices can be read. -/
import Derived.Test.YtjeecfjeooehhaaGreatDoorRvP
set_option linter.unusedSimpArgs false
set_option linter.unusedVariables false
namespace Go.Proofs.YtjeecfjeooehhaaGreatDoor
open Go.RowKit
attribute [local go_sem ↓] wp_at_zero wp_at_succ
section
variable {α β : Type}
theorem flatK_len (f : α → List β) (K : Nat) : ∀ (L : List α), (∀ x ∈ L, (f x).length = K) → (L.flatMap f).length = L.length * K
  | [], _ => by simp
  | x :: L, h => by
    rw [List.flatMap_cons, List.length_append, h x (List.mem_cons_self ..), flatK_len f K L (fun y hy => h y (List.mem_cons_of_mem _ hy)), List.length_cons, Nat.succ_mul, Nat.add_comm]
theorem flatK_at (f : α → List β) (K : Nat) : ∀ (L : List α), (∀ x ∈ L, (f x).length = K) → ∀ (k : Nat) (x : α), L[k]? = some x → ∀ j, j < K → (L.flatMap f)[k * K + j]? = (f x)[j]?
  | [], _, _, _, h, _, _ => by simp at h
  | y :: L, hK, 0, x, h, j, hj => by
    simp only [List.getElem?_cons_zero, Option.some.injEq] at h
    subst h
    rw [List.flatMap_cons, Nat.zero_mul, Nat.zero_add, List.getElem?_append_left (by rw [hK y (List.mem_cons_self ..)]; exact hj)]
  | y :: L, hK, k + 1, x, h, j, hj => by
    simp only [List.getElem?_cons_succ] at h
    have hy := hK y (List.mem_cons_self ..)
    rw [List.flatMap_cons, List.getElem?_append_right (by rw [hy, Nat.succ_mul]; omega), hy]
    have e : (k + 1) * K + j - K = k * K + j := by rw [Nat.succ_mul]; omega
    rw [e]
    exact flatK_at f K L (fun z hz => hK z (List.mem_cons_of_mem _ hz)) k x h j hj
end
/-- A review as it lies in memory. -/
structure RX where
  r : Rev
  A : Option Addr
  n : Nat
  c : Nat
def rxC (x : RX) : List Value := revC x.r x.A x.n x.c
def rxsC (L : List RX) : List Value := L.flatMap rxC
def RXV (w : World) (x : RX) : Prop := RevV w x.r x.A x.n x.c
theorem RXV.ext {w w' : World} {x : RX} (h : RXV w x) (hE : Ext w w') : RXV w' x := RevV.ext h hE
theorem RXV.len {w : World} {x : RX} (h : RXV w x) : (rxC x).length = 22 := revC_len _ _ _ _ h.mean
theorem rxC_one (x : RX) : ∀ v ∈ rxC x, v.oneCell' = true := revC_one _ _ _ _
theorem rx_at {w : World} {B n : Nat} {A : Option Addr} {L : List RX} (h : RdN w B 22 A n (rxsC L)) (hL : ∀ x ∈ L, (rxC x).length = 22) (hn : 0 < n) : ∃ b p, A = some ⟨b, p, none⟩ ∧ b < B ∧ ∀ W : World, (∀ a : Addr, a.block < B → W.cell? a = w.cell? a) → ∀ k x, L[k]? = some x → W.rangeAt b (p + k * 22) (rxC x) := by
  obtain ⟨b, p, hA, hb, hc⟩ := h.2 hn
  refine ⟨b, p, hA, hb, fun W hW k x hx j u hu => ?_⟩
  have hj : j < 22 := by
    have := (List.getElem?_eq_some_iff.1 hu).1
    rw [hL x (List.mem_of_getElem? hx)] at this
    exact this
  rw [Nat.add_assoc]
  exact (hW _ hb).trans (hc (k * 22 + j) u ((flatK_at rxC 22 L hL k x hx j hj).trans hu))
theorem rx_n {w : World} {B n : Nat} {A : Option Addr} {L : List RX} (h : RdN w B 22 A n (rxsC L)) (hL : ∀ x ∈ L, (rxC x).length = 22) : L.length = n := by
  have h1 := h.1
  unfold rxsC at h1
  rw [flatK_len rxC 22 L hL] at h1
  omega
/-- Is there an ID that both lists have? -/
def meetB (a b : List Rid) : Bool := a.any fun x => decide (x ∈ b)
set_option maxHeartbeats 4000000 in
set_option maxRecDepth 100000 in
theorem clos3_any (y : RX) (x : Rid) (g : Nat) (w : World) (hB : Blk w g 28 (rxC y)) (hy : RXV w y) :
    Calls Tryz.prog 85 #[.agg #[.int .i64 x.s, .int .i64 x.q, .int .i64 x.i], .pointer (some ⟨g, 0, none⟩)] w fun e w' => e = .returned (.bool (decide (x ∈ y.r.ops))) ∧ Ext w w' := by
  have HC : Hid (∀ W, Ext w W → Calls Tryz.prog 86 #[.slice y.A y.n y.c, .agg #[.int .i64 x.s, .int .i64 x.q, .int .i64 x.i]] W fun e w' => e = .returned (.bool (decide (x ∈ y.r.ops))) ∧ Ext W w') := Lib.hid (fun W hW => contains_id y.r.ops x y.A y.n y.c W (hy.ext hW).row hy.few)
  have HB := Lib.hid hB
  clear hy hB
  obtain ⟨s, q, z⟩ := x
  obtain ⟨yr, yA, yn, yc⟩ := y
  dsimp only at HC ⊢
  obtain ⟨eb, heb⟩ : ∃ e, e = decide ((⟨s, q, z⟩ : Rid) ∈ yr.ops) := ⟨_, rfl⟩
  rw [← heb] at HC ⊢
  clear heb
  go_enter Tryz.func85, Tryz.ntmps85
  go_upto_region 1 with fail
  obtain ⟨w1, hw1⟩ : ∃ x, x = w.alloc (.cells #[.int .i64 s, .int .i64 q, .int .i64 z] 68) := ⟨_, rfl⟩
  change Code.wp _ _ _ _ (w.alloc (.cells #[.int .i64 s, .int .i64 q, .int .i64 z] 68))
  rw [← hw1]
  have E1 : Hid (Ext w w1) := Lib.hid (by rw [hw1]; exact (Ext.refl w).alloc _)
  have BX : Hid (Blk w1 w.heap.size 68 [.int .i64 s, .int .i64 q, .int .i64 z]) := Lib.hid (by rw [hw1]; exact Blk.fresh' _ _ _ _ _ rfl rfl)
  have c4 : w1.cell? ⟨g, 4, none⟩ = some (.slice yA yn yc) := (HB.out.ext E1.out).cell 4
  clear hw1
  go_wp2_with (first
    | (refine wpList_load_blk rfl 68 (.tmp 2) rfl w.heap.size (by kernel_rfl) BX.out Tryz.underlying68 rfl (info_id.trans rfl) ?_)
    | (go_at_call 86; (with_reducible refine (HC.out w1 E1.out).mono ?_); rintro e w2 ⟨rfl, hE2⟩))
  go_ret
  exact ⟨rfl, E1.out.next hE2⟩
set_option maxHeartbeats 8000000 in
set_option maxRecDepth 100000 in
theorem indexF_id {n : Nat} (A : Option Addr) (c : Nat) (v1 : Value) (p : Nat → Bool) (w : World) (b o : Nat) (hA : 0 < n → A = some ⟨b, o, none⟩) (encs : Nat → List Value) (hR : ∀ j, j < n → ∀ W, Ext w W → W.rangeAt b (o + j * 3) (encs j)) (hlen : ∀ j, j < n → (encs j).length = 3)
    (hn : n ≤ 1000000000000) (hp : ∀ j, j < n → ∀ W, Ext w W → Calls Tryz.prog 85 #[.agg (encs j).toArray, v1] W fun e w' => e = .returned (.bool (p j)) ∧ Ext W w') :
    Calls Tryz.prog 123 #[.slice A n c, .func (.func 85) #[] #[v1]] w fun e w' => (∃ v : Int, e = .returned (.int .i64 v) ∧ decide (0 ≤ v) = (List.range n).any p) ∧ Ext w w' := by
  have HR := Lib.hid hR; have HP := Lib.hid hp; have HLN := Lib.hid hlen
  clear hR hp hlen
  go_enter Tryz.func123, Tryz.ntmps123
  go_wp2_with fail
  go_loopw [5, 8] (fun _ k wr => ∃ t : Nat, t ≤ n ∧ k = .int .i64 (t : Int) ∧ Ext w wr ∧ ∀ j, j < t → p j = false) (fun _ k _ => n - (intOf k).toNat)
  case atStart => exact ⟨0, by omega, rfl, Ext.refl _, fun j hj => by omega⟩
  case round =>
    obtain ⟨t, ht, rfl, hE, hz⟩ := hrel
    have EO := Lib.hid hE; have HZ := Lib.hid hz
    clear hE hz
    obtain ⟨wo, rfl⟩ : ∃ x : World, x = wr := ⟨_, rfl⟩
    by_cases hlt : t < n
    · have hA' := hA (by omega)
      subst hA'
      have HRW := Lib.hid (HR.out t hlt wo EO.out)
      have HPW := Lib.hid (HP.out t hlt)
      have HLE := Lib.hid (HLN.out t hlt)
      have HTN : Hid (t + 1 ≤ n) := Lib.hid (by omega)
      obtain ⟨E, hE⟩ : ∃ E, E = encs t := ⟨_, rfl⟩
      rw [← hE] at HRW HPW HLE
      obtain ⟨pb, hpb⟩ : ∃ x, x = p t := ⟨_, rfl⟩
      rw [← hpb] at HPW
      have HY : Hid (pb = true → (List.range n).any p = true) := Lib.hid (fun h => List.any_eq_true.2 ⟨t, List.mem_range.2 hlt, by rw [← hpb, h]⟩)
      have HN : Hid (pb = false → ∀ j, j < t + 1 → p j = false) := Lib.hid (fun h j hj => by
        rcases Nat.lt_or_ge j t with h1 | h1
        · exact HZ.out j h1
        · obtain rfl : j = t := by omega
          rw [← hpb, h])
      clear hE hpb
      cases pb
      · have hN := Lib.hid (HN.out rfl)
        go_wp2_with (first
          | (refine wpList_midw (by rfl) 68 (.tmp 14) rfl b (o + t * 3) (by kernel_rfl) E HRW.out Tryz.underlying68 rfl (info_id.trans (congrArg some HLE.out.symm)) ?_)
          | (go_at_call 85; (with_reducible refine (HPW.out wo EO.out).mono ?_); rintro e w2 ⟨rfl, hE2⟩))
        exact ⟨⟨t + 1, HTN.out, by go_num, EO.out.next hE2, hN.out⟩, by have := HTN.out; simp [intOf]; omega⟩
      · have hY := Lib.hid (HY.out rfl)
        go_wp2_with (first
          | (refine wpList_midw (by rfl) 68 (.tmp 14) rfl b (o + t * 3) (by kernel_rfl) E HRW.out Tryz.underlying68 rfl (info_id.trans (congrArg some HLE.out.symm)) ?_)
          | (go_at_call 85; (with_reducible refine (HPW.out wo EO.out).mono ?_); rintro e w2 ⟨rfl, hE2⟩))
        go_ret
        exact ⟨⟨(t : Int), rfl, by rw [hY.out]; exact decide_eq_true (by omega)⟩, EO.out.next hE2⟩
    · obtain rfl : t = n := by omega
      have hno : (List.range t).any p = false := by
        rw [Bool.eq_false_iff]
        intro h
        obtain ⟨j, hj, hpj⟩ := List.any_eq_true.1 h
        rw [HZ.out j (List.mem_range.1 hj)] at hpj
        cases hpj
      go_wp2_with fail
      go_ret
      exact ⟨⟨-1, rfl, by rw [hno]; rfl⟩, EO.out⟩
set_option maxHeartbeats 4000000 in
theorem containsF_id {n : Nat} (A : Option Addr) (c : Nat) (v1 : Value) (p : Nat → Bool) (w : World) (b o : Nat) (hA : 0 < n → A = some ⟨b, o, none⟩) (encs : Nat → List Value) (hR : ∀ j, j < n → ∀ W, Ext w W → W.rangeAt b (o + j * 3) (encs j)) (hlen : ∀ j, j < n → (encs j).length = 3)
    (hn : n ≤ 1000000000000) (hp : ∀ j, j < n → ∀ W, Ext w W → Calls Tryz.prog 85 #[.agg (encs j).toArray, v1] W fun e w' => e = .returned (.bool (p j)) ∧ Ext W w') :
    Calls Tryz.prog 84 #[.slice A n c, .func (.func 85) #[] #[v1]] w fun e w' => e = .returned (.bool ((List.range n).any p)) ∧ Ext w w' := by
  have HI := Lib.hid (indexF_id A c v1 p w b o hA encs hR hlen hn hp)
  clear hA hR hlen hp
  obtain ⟨eb, heb⟩ : ∃ e, e = (List.range n).any p := ⟨_, rfl⟩
  rw [← heb] at HI ⊢
  clear heb
  go_enter Tryz.func84, Tryz.ntmps84
  go_wp2_with (go_at_call 123; (with_reducible refine HI.out.mono ?_); rintro e w2 ⟨⟨v, rfl, hv⟩, hE2⟩)
  go_ret
  exact ⟨rfl, hE2⟩
set_option maxHeartbeats 8000000 in
set_option maxRecDepth 100000 in
theorem indexF_rv {n : Nat} (A : Option Addr) (c : Nat) (v1 v2 : Value) (p : Nat → Bool) (w : World) (b o : Nat) (hA : 0 < n → A = some ⟨b, o, none⟩) (encs : Nat → List Value) (hR : ∀ j, j < n → ∀ W, Ext w W → W.rangeAt b (o + j * 22) (encs j)) (hlen : ∀ j, j < n → (encs j).length = 22)
    (hn : n ≤ 1000000000000) (hp : ∀ j, j < n → ∀ W, Ext w W → Calls Tryz.prog 83 #[.agg (encs j).toArray, v1, v2] W fun e w' => e = .returned (.bool (p j)) ∧ Ext W w') :
    Calls Tryz.prog 122 #[.slice A n c, .func (.func 83) #[] #[v1, v2]] w fun e w' => (∃ v : Int, e = .returned (.int .i64 v) ∧ decide (0 ≤ v) = (List.range n).any p) ∧ Ext w w' := by
  have HR := Lib.hid hR; have HP := Lib.hid hp; have HLN := Lib.hid hlen
  clear hR hp hlen
  go_enter Tryz.func122, Tryz.ntmps122
  go_wp2_with fail
  go_loopw [5, 8] (fun _ k wr => ∃ t : Nat, t ≤ n ∧ k = .int .i64 (t : Int) ∧ Ext w wr ∧ ∀ j, j < t → p j = false) (fun _ k _ => n - (intOf k).toNat)
  case atStart => exact ⟨0, by omega, rfl, Ext.refl _, fun j hj => by omega⟩
  case round =>
    obtain ⟨t, ht, rfl, hE, hz⟩ := hrel
    have EO := Lib.hid hE; have HZ := Lib.hid hz
    clear hE hz
    obtain ⟨wo, rfl⟩ : ∃ x : World, x = wr := ⟨_, rfl⟩
    by_cases hlt : t < n
    · have hA' := hA (by omega)
      subst hA'
      have HRW := Lib.hid (HR.out t hlt wo EO.out)
      have HPW := Lib.hid (HP.out t hlt)
      have HLE := Lib.hid (HLN.out t hlt)
      have HTN : Hid (t + 1 ≤ n) := Lib.hid (by omega)
      obtain ⟨E, hE⟩ : ∃ E, E = encs t := ⟨_, rfl⟩
      rw [← hE] at HRW HPW HLE
      obtain ⟨pb, hpb⟩ : ∃ x, x = p t := ⟨_, rfl⟩
      rw [← hpb] at HPW
      have HY : Hid (pb = true → (List.range n).any p = true) := Lib.hid (fun h => List.any_eq_true.2 ⟨t, List.mem_range.2 hlt, by rw [← hpb, h]⟩)
      have HN : Hid (pb = false → ∀ j, j < t + 1 → p j = false) := Lib.hid (fun h j hj => by
        rcases Nat.lt_or_ge j t with h1 | h1
        · exact HZ.out j h1
        · obtain rfl : j = t := by omega
          rw [← hpb, h])
      clear hE hpb
      cases pb
      · have hN := Lib.hid (HN.out rfl)
        go_wp2_with (first
          | (refine wpList_midw (by rfl) 28 (.tmp 14) rfl b (o + t * 22) (by kernel_rfl) E HRW.out Tryz.underlying28 rfl (info_rev.trans (congrArg some HLE.out.symm)) ?_)
          | (go_at_call 83; (with_reducible refine (HPW.out wo EO.out).mono ?_); rintro e w2 ⟨rfl, hE2⟩))
        exact ⟨⟨t + 1, HTN.out, by go_num, EO.out.next hE2, hN.out⟩, by have := HTN.out; simp [intOf]; omega⟩
      · have hY := Lib.hid (HY.out rfl)
        go_wp2_with (first
          | (refine wpList_midw (by rfl) 28 (.tmp 14) rfl b (o + t * 22) (by kernel_rfl) E HRW.out Tryz.underlying28 rfl (info_rev.trans (congrArg some HLE.out.symm)) ?_)
          | (go_at_call 83; (with_reducible refine (HPW.out wo EO.out).mono ?_); rintro e w2 ⟨rfl, hE2⟩))
        go_ret
        exact ⟨⟨(t : Int), rfl, by rw [hY.out]; exact decide_eq_true (by omega)⟩, EO.out.next hE2⟩
    · obtain rfl : t = n := by omega
      have hno : (List.range t).any p = false := by
        rw [Bool.eq_false_iff]
        intro h
        obtain ⟨j, hj, hpj⟩ := List.any_eq_true.1 h
        rw [HZ.out j (List.mem_range.1 hj)] at hpj
        cases hpj
      go_wp2_with fail
      go_ret
      exact ⟨⟨-1, rfl, by rw [hno]; rfl⟩, EO.out⟩
set_option maxHeartbeats 4000000 in
theorem containsF_rv {n : Nat} (A : Option Addr) (c : Nat) (v1 v2 : Value) (p : Nat → Bool) (w : World) (b o : Nat) (hA : 0 < n → A = some ⟨b, o, none⟩) (encs : Nat → List Value) (hR : ∀ j, j < n → ∀ W, Ext w W → W.rangeAt b (o + j * 22) (encs j)) (hlen : ∀ j, j < n → (encs j).length = 22)
    (hn : n ≤ 1000000000000) (hp : ∀ j, j < n → ∀ W, Ext w W → Calls Tryz.prog 83 #[.agg (encs j).toArray, v1, v2] W fun e w' => e = .returned (.bool (p j)) ∧ Ext W w') :
    Calls Tryz.prog 82 #[.slice A n c, .func (.func 83) #[] #[v1, v2]] w fun e w' => e = .returned (.bool ((List.range n).any p)) ∧ Ext w w' := by
  have HI := Lib.hid (indexF_rv A c v1 v2 p w b o hA encs hR hlen hn hp)
  clear hA hR hlen hp
  obtain ⟨eb, heb⟩ : ∃ e, e = (List.range n).any p := ⟨_, rfl⟩
  rw [← heb] at HI ⊢
  clear heb
  go_enter Tryz.func82, Tryz.ntmps82
  go_wp2_with (go_at_call 122; (with_reducible refine HI.out.mono ?_); rintro e w2 ⟨⟨v, rfl, hv⟩, hE2⟩)
  go_ret
  exact ⟨rfl, hE2⟩
end Go.Proofs.YtjeecfjeooehhaaGreatDoor
