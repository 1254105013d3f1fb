/- The reference's Reviews and SameAll. Conditions: numbers of 64 bits, sizes. -/
import Derived.Test.YtphabdlcjpfbaaaRwG
import Derived.Test.YtphabdlcjpfbaaaRvI
import Derived.Maps.AppendAt
set_option linter.unusedSimpArgs false
set_option linter.unusedVariables false
namespace Go.Proofs.Ytphabdlcjpfbaaa
open Go.RowKit
attribute [local go_sem ↓] wp_at_zero wp_at_succ
def revsL (l : List Int) (k : Nat) : List Rev := (List.range k).map fun i => revOf (l.drop (5 * i))
theorem revsL_succ (l : List Int) (k : Nat) : revsL l (k + 1) = revsL l k ++ [revOf (l.drop (5 * k))] := by
  unfold revsL
  rw [List.range_succ, List.map_append]
  rfl
/-- How many reviews a list of numbers gives. -/
def cntR (n : Nat) : Nat := min ((n + 4) / 5) 10
/-- The operations of a review lie in no block of a slice's own. -/
def Aprt (v : Value) (x : RX) : Prop := ∀ (b : Nat) (a : Addr), v.ownBlock = some b → 0 < x.n → x.A = some a → a.block ≠ b
theorem RXV.kept {w w' : World} {x : RX} {F : Nat → Prop} (h : RXV w x) (hk : Kept F w w') (hf : ∀ a, 0 < x.n → x.A = some a → ¬ F a.block) : RXV w' x := by
  refine ⟨⟨h.row.1, fun h0 => ?_⟩, h.le, h.cap, h.few, h.mean, h.mbyt⟩
  obtain ⟨b, p, hA, hb, hc⟩ := h.row.2 h0
  exact ⟨b, p, hA, Nat.lt_of_lt_of_le hb hk.size, fun j u hu => (hk.cell (p := ⟨b, p + j, none⟩) hb (hf ⟨b, p, none⟩ h0 hA)).trans (hc j u hu)⟩
theorem RXV.in {w : World} {x : RX} (h : RXV w x) {a : Addr} (h0 : 0 < x.n) (ha : x.A = some a) : a.block < w.heap.size := by
  obtain ⟨b, p, hA, hb, _⟩ := h.row.2 h0
  rw [hA] at ha
  simp only [Option.some.injEq] at ha
  rw [← ha]
  exact hb
theorem cells_new (w : World) (X : Array Value) (cs : List Value) (t : TypeId) (h : X = cs.toArray) : ∀ j u, cs[j]? = some u → (w.alloc (.cells X t)).cell? ((⟨w.heap.size, 0, none⟩ : Addr).add j) = some u := by
  intro j u hu
  subst h
  have h := (Blk.fresh w t cs).cell j
  rw [Addr.add_mid, Nat.zero_add, h, hu]
theorem own_shape {w : World} {base : Nat} {e : TypeId} {size n : Nat} {v : Value} {xs : List Value} (h : w.ownsRow base e size v n xs) : ∃ A c, v = .slice A n c := by
  rcases h.2 with ⟨rfl, h0⟩ | ⟨g, cap, cur, rfl, _⟩
  · exact ⟨none, 0, by rw [h0]⟩
  · exact ⟨_, _, rfl⟩
theorem own_in {w : World} {base : Nat} {e : TypeId} {size : Nat} {v : Value} {n : Nat} {xs : List Value} (ho : w.ownsRow base e size v n xs) {b : Nat} (hb : v.ownBlock = some b) : b < w.heap.size := by
  rcases ho.2 with ⟨h1, _⟩ | ⟨g, cap, cur, h1, _, h3, _⟩
  · rw [h1] at hb; cases hb
  · rw [h1] at hb
    have e1 : g = b := by simpa [Value.ownBlock] using hb
    rw [← e1]
    exact (Array.getElem?_eq_some_iff.1 h3).1
theorem rd_drop5 {w : World} {B b p n : Nat} {l : List Int} (h : Rd w B (some ⟨b, p, none⟩) n (l.map (Value.int .i64))) {k : Nat} (hk : k ≤ n) : Rd w B (some ⟨b, p + k, none⟩) (n - k) ((l.drop k).map (Value.int .i64)) := by
  have h1 := h.slice k (n - k) (by omega)
  have hl : l.length = n := by simpa using h.1
  have e : (((l.map (Value.int .i64)).drop k).take (n - k)) = (l.drop k).map (Value.int .i64) := by
    rw [← List.map_drop, List.take_of_length_le (by rw [List.length_map, List.length_drop]; omega)]
  rw [e] at h1
  exact h1
/-- What append of one review leaves, for the reviews of the slice. -/
theorem aprt_next {w w' : World} {base base2 : Nat} {v v' : Value} {k : Nat} {xs : List Value} {M : List RX} {y : RX} (hM : ∀ x ∈ M, RXV w x ∧ Aprt v x) (hy : RXV w y) (hfar : ∀ a, y.A = some a → base2 ≤ a.block) (ho : w.ownsRow base 27 22 v k xs) (hin : ∀ b, v.ownBlock = some b → b < base2)
    (hg : w.grownBy w' v.ownBlock) (hat : v'.ownBlock = v.ownBlock ∨ v'.ownBlock = some w.heap.size) : ∀ x ∈ M ++ [y], RXV w' x ∧ Aprt v' x := by
  have hk : Kept (fun b => v.ownBlock = some b) w w' := Kept.of_grown hg (fun b hb _ => hb)
  have hap : ∀ x, RXV w x → Aprt v x → RXV w' x ∧ Aprt v' x := fun x hx ha => by
    refine ⟨hx.kept hk (fun a h0 hA hb => ha _ a hb h0 hA rfl), fun b a hb h0 hA => ?_⟩
    rcases hat with h | h
    · exact ha b a (by rw [← h]; exact hb) h0 hA
    · rw [h] at hb
      simp only [Option.some.injEq] at hb
      have := hx.in h0 hA
      omega
  intro x hx
  rcases List.mem_append.1 hx with hx | hx
  · exact hap x (hM x hx).1 (hM x hx).2
  · rw [List.mem_singleton.1 hx]
    exact hap y hy (fun b a hb h0 hA => by
      have h1 := hin b hb
      have h2 := hfar a hA
      omega)
set_option maxHeartbeats 8000000 in
set_option maxRecDepth 100000 in
theorem reviews_any (l : List Int) (A : Option Addr) (n c : Nat) (w : World) (hl : Rd w w.heap.size A n (l.map (Value.int .i64))) (hwf : ∀ x ∈ l, -9223372036854775808 ≤ x ∧ x ≤ 9223372036854775807) (hnc : n ≤ c) (hc : c ≤ 9223372036854775807) :
    Calls Try.prog 22 #[.slice A n c] w fun e w' => (∃ (M : List RX) (A' : Option Addr) (c' : Nat), e = .returned (.slice A' M.length c') ∧ w'.ownsRow w.heap.size 27 22 (.slice A' M.length c') M.length (rxsC M) ∧ (∀ x ∈ M, RXV w' x ∧ Aprt (.slice A' M.length c') x) ∧ M.map (·.r) = revsL l (cntR n)) ∧ Ext w w' := by
  obtain ⟨i0, hi, hz0, hz1, hz2⟩ := info_parts rv_info
  have HL := Lib.hid hl; have HWF := Lib.hid hwf
  clear hl hwf
  go_enter Try.func22, Try.ntmps22
  go_wp2_with fail
  go_loopw [3, 4] (fun s3 s4 wr => ∃ (M : List RX) (k c' : Nat) (A' : Option Addr), s4 = .int .i64 (k : Int) ∧ k ≤ cntR n ∧ s3 = .slice A' k c' ∧ M.length = k ∧ wr.ownsRow w.heap.size 27 22 (.slice A' k c') k (rxsC M) ∧ (∀ x ∈ M, RXV wr x ∧ Aprt (.slice A' k c') x) ∧ M.map (·.r) = revsL l k ∧ Ext w wr) (fun _ s4 _ => 10 - (intOf s4).toNat)
  case atStart => exact ⟨[], 0, 0, none, rfl, Nat.zero_le _, rfl, rfl, World.ownsRow_nil _ _ _ _, (fun x hx => by cases hx), rfl, Ext.refl _⟩
  case round =>
    obtain ⟨M, k, c', A', rfl, hk, rfl, hml, hown, hM, hmr, hE⟩ := hrel
    have EO := Lib.hid hE; have HOW := Lib.hid hown; have HM := Lib.hid hM; have HML := Lib.hid hml; have HMR := Lib.hid hmr
    clear hE hown hM hml hmr
    obtain ⟨wo, rfl⟩ : ∃ x : World, x = wr := ⟨_, rfl⟩
    have hk10 : k ≤ 10 := by unfold cntR at hk; omega
    have HKC := Lib.hid hk
    clear hk
    have END : Hid (k = cntR n → ∃ (M : List RX) (A'' : Option Addr) (c'' : Nat), Ending.returned (Value.slice A' k c') = .returned (.slice A'' M.length c'') ∧ wo.ownsRow w.heap.size 27 22 (.slice A'' M.length c'') M.length (rxsC M) ∧ (∀ x ∈ M, RXV wo x ∧ Aprt (.slice A'' M.length c'') x) ∧ M.map (·.r) = revsL l (cntR n)) := Lib.hid (fun h => ⟨M, A', c', by rw [HML.out], by rw [HML.out]; exact HOW.out, by rw [HML.out]; exact HM.out, by rw [← h]; exact HMR.out⟩)
    by_cases hlt : 5 * k < n
    · have h1 : decide (5 * (k : Int) < (n : Int)) = true := decide_eq_true (by omega)
      by_cases hlt2 : k < 10
      · have h2 : decide ((k : Int) < 10) = true := decide_eq_true (by omega)
        obtain ⟨b, p, hA, hb, _⟩ := HL.out.2 (by omega)
        subst hA
        have HRV : Hid (∀ W, Ext w W → Calls Try.prog 7 #[.slice (some ⟨b, p + 5 * k, none⟩) (n - 5 * k) (c - 5 * k)] W fun e w' => (∃ A' n' c', e = .returned (.agg (revC (revOf (l.drop (5 * k))) A' n' c').toArray) ∧ RevV w' (revOf (l.drop (5 * k))) A' n' c' ∧ ∀ a, A' = some a → W.heap.size ≤ a.block) ∧ Ext W w') := Lib.hid (fun W hW => review_far (l.drop (5 * k)) _ _ _ W (rd_drop5 (HL.out.ext' hW) (by omega)) (fun x hx => HWF.out x (List.mem_of_mem_drop hx)))
        have HKN : Hid (k + 1 ≤ cntR n) := Lib.hid (by unfold cntR; omega)
        have HRS := Lib.hid (revsL_succ l k)
        obtain ⟨r, hr⟩ : ∃ r, r = revOf (l.drop (5 * k)) := ⟨_, rfl⟩
        rw [← hr] at HRV HRS
        have hck : ¬ c = 5 * k := by omega
        have HK9 := Lib.hid hlt2
        clear hr hb hlt2
        go_wp2_with (first
          | (go_at_call 7; (with_reducible refine (HRV.out wo EO.out).mono ?_); rintro e w2 ⟨⟨A2, n2, c2, rfl, hv2, hf2⟩, hE2⟩; have HV2 := Lib.hid hv2; have HF2 := Lib.hid hf2; have E2 := Lib.hid hE2; have hx22 : (revC r A2 n2 c2).length = 22 := revC_len _ _ _ _ hv2.mean; have HX22 := Lib.hid hx22; have HO2 : Hid (w2.ownsRow w.heap.size 27 22 (.slice A' k c') k (rxsC M)) := Lib.hid ((Kept.of_ext (F := fun _ => False) hE2).own HOW.out (fun _ _ h => h)); clear hv2 hf2 hE2)
          | (at_builtin; go_loud (refine wpList_append_own_at _ rfl (.tmp 16) (.tmp 22) 35 rfl w.heap.size 27 i0 (.agg Z0.toArray) 22 88 Try.underlying35 hi hz0 hz1 hz2 rfl (by omega) (.slice A' k c') k (rxsC M) (by kernel_rfl) (HO2.out.alloc _) ⟨w2.heap.size, 0, none⟩ 1 1 (revC r A2 n2 c2) (by kernel_rfl) HX22.out (cells_new w2 _ (revC r A2 n2 c2) 27 (by rw [fold_set]; rw [HX22.out]; rfl)) (revC_one _ _ _ _) (by simp only [maxLen]; omega) (by omega) (by have h1 := EO.out.size; have h2 := E2.out.size; simp; omega) ?_; intro v7 w7 ho7 hg7 _ hat7; have HO7 := Lib.hid ho7; have HG7 := Lib.hid hg7; have HAT := Lib.hid hat7; clear ho7 hg7 hat7)))
        obtain ⟨A7, c7, rfl⟩ := own_shape HO7.out
        have hAL : ∀ o : Obj, Ext w2 (w2.alloc o) := fun o => (Ext.refl w2).alloc o
        have hMN := aprt_next (y := ⟨r, A2, n2, c2⟩) (fun x hx => ⟨((HM.out x hx).1.ext E2.out).ext (hAL _), (HM.out x hx).2⟩) (HV2.out.ext (hAL _)) HF2.out (HO2.out.alloc _) (fun b hb => own_in HOW.out hb) HG7.out HAT.out
        have E7 : Ext w w7 := below_app ((EO.out.next E2.out).alloc _) HG7.out (HO2.out.alloc _) (Nat.le_refl _) (by have h1 := EO.out.size; have h2 := E2.out.size; simp; omega)
        refine ⟨⟨M ++ [⟨r, A2, n2, c2⟩], k + 1, c7, A7, by go_num, HKN.out, rfl, by rw [List.length_append, HML.out]; rfl, ?_, hMN, ?_, E7⟩, by have := HK9.out; simp [intOf]; omega⟩
        · rw [rxsC_app, show rxsC [(⟨r, A2, n2, c2⟩ : RX)] = revC r A2 n2 c2 by simp [rxsC, rxC]]
          exact HO7.out
        · rw [List.map_append, HMR.out, HRS.out]
          rfl
      · obtain rfl : k = 10 := by omega
        have h2 : decide (((10 : Nat) : Int) < 10) = false := by decide
        have h3 := END.out (by unfold cntR; omega)
        have H3 := Lib.hid h3
        clear h3
        go_wp2_with fail
        go_ret
        exact ⟨H3.out, EO.out⟩
    · have h1 : decide (5 * (k : Int) < (n : Int)) = false := decide_eq_false (by omega)
      have h3 := END.out (by have := HKC.out; unfold cntR at *; omega)
      have H3 := Lib.hid h3
      clear h3
      go_wp2_with fail
      go_ret
      exact ⟨H3.out, EO.out⟩
set_option maxHeartbeats 8000000 in
set_option maxRecDepth 100000 in
theorem sameall_any (M K : List RX) (A B : Option Addr) (n c m d : Nat) (w : World) (ha : RdN w w.heap.size 22 A n (rxsC M)) (hb : RdN w w.heap.size 22 B m (rxsC K)) (hM : ∀ x ∈ M, RXV w x ∧ RevW x.r) (hK : ∀ x ∈ K, RXV w x) (he : M.map (·.r) = K.map (·.r)) (hn : n ≤ 1000000000000) :
    Calls Try.prog 23 #[.slice A n c, .slice B m d] w fun e w' => e = .returned (.bool true) ∧ Ext w w' := by
  have HA := Lib.hid ha; have HB := Lib.hid hb
  have HM22 : Hid (∀ x ∈ M, (rxC x).length = 22) := Lib.hid (fun x hx => (hM x hx).1.len)
  have HK22 : Hid (∀ x ∈ K, (rxC x).length = 22) := Lib.hid (fun x hx => (hK x hx).len)
  have HMN := Lib.hid (rx_n ha HM22.out); have HKN := Lib.hid (rx_n hb HK22.out)
  obtain rfl : n = m := by
    have := congrArg List.length he
    rw [List.length_map, List.length_map, HMN.out, HKN.out] at this
    exact this
  have HS : Hid (∀ (t : Nat) (x y : RX), M[t]? = some x → K[t]? = some y → ∀ W, Ext w W → Calls Try.prog 21 #[.agg (rxC x).toArray, .agg (rxC y).toArray] W fun e w' => e = .returned (.bool true) ∧ Ext W w') := Lib.hid (fun t x y hx hy W hW => by
    have hxm := List.mem_of_getElem? hx
    have hym := List.mem_of_getElem? hy
    have hr : x.r = y.r := by
      have h1 : (M.map (·.r))[t]? = some x.r := by rw [List.getElem?_map, hx]; rfl
      have h2 : (K.map (·.r))[t]? = some y.r := by rw [List.getElem?_map, hy]; rfl
      rw [he, h2] at h1
      exact (Option.some.inj h1).symm
    have h := rsame_any x.r y.r x.A y.A x.n x.c y.n y.c W ((hM x hxm).1.ext hW) (hM x hxm).2 ((hK y hym).ext hW) (by rw [← hr]; exact (hM x hxm).2)
    rw [decide_eq_true (by rw [hr] : encR x.r = encR y.r)] at h
    exact h)
  clear ha hb hM hK he
  go_enter Try.func23, Try.ntmps23
  go_wp2_with fail
  go_loopw [5] (fun s5 wr => ∃ t : Nat, t ≤ n ∧ s5 = .int .i64 (t : Int) ∧ Ext w wr) (fun s5 _ => n - (intOf s5).toNat)
  case atStart => exact ⟨0, Nat.zero_le _, rfl, Ext.refl _⟩
  case round =>
    obtain ⟨t, ht, rfl, hE⟩ := hrel
    have EI := Lib.hid hE
    clear hE
    obtain ⟨wo, rfl⟩ : ∃ x : World, x = wr := ⟨_, rfl⟩
    by_cases hlt : t < n
    · obtain ⟨b1, p1, hA, hb1, hrg1⟩ := rx_at HA.out HM22.out (by omega)
      obtain ⟨b2, p2, hB, hb2, hrg2⟩ := rx_at HB.out HK22.out (by omega)
      subst hA hB
      obtain ⟨x, hx⟩ : ∃ x, M[t]? = some x := ⟨_, List.getElem?_eq_getElem (by rw [HMN.out]; exact hlt)⟩
      obtain ⟨y, hy⟩ : ∃ y, K[t]? = some y := ⟨_, List.getElem?_eq_getElem (by rw [HKN.out]; exact hlt)⟩
      have HR1 : Hid (∀ W, Ext w W → W.rangeAt b1 (p1 + t * 22) (rxC x)) := Lib.hid (fun W hW => hrg1 W (fun a ha => hW.cell ha) t x hx)
      have HR2 : Hid (∀ W, Ext w W → W.rangeAt b2 (p2 + t * 22) (rxC y)) := Lib.hid (fun W hW => hrg2 W (fun a ha => hW.cell ha) t y hy)
      have HX22 := Lib.hid (HM22.out x (List.mem_of_getElem? hx)); have HY22 := Lib.hid (HK22.out y (List.mem_of_getElem? hy))
      have HC := Lib.hid (HS.out t x y hx hy)
      have HTN : Hid (t + 1 ≤ n) := Lib.hid hlt
      clear hrg1 hrg2 hb1 hb2 hx hy
      go_upto_region 6 with fail
      refine wp_region_flowF 10 ?FW1 (fun us => ?_) (by kernel_rfl) (by kernel_rfl) (fun a b => Ext a b) Ext.refl (fun h1 h2 => h1.next h2) (fun i v W => match i with
        | 0 => v = .slice (some ⟨b1, p1, none⟩) n c
        | 1 => v = .int .i64 (t : Int)
        | 2 => v = .pointer (some ⟨b1, p1 + t * 22, none⟩)
        | 3 => v = .agg (rxC x).toArray
        | 4 => v = .slice (some ⟨b2, p2, none⟩) n d
        | 5 => v = .int .i64 (t : Int)
        | 6 => v = .pointer (some ⟨b2, p2 + t * 22, none⟩)
        | 7 => v = .agg (rxC y).toArray
        | 8 => v = .bool true
        | 9 => v = .bool false
        | _ => True) ?_ ?_
      case refine_1 =>
        simp only [List.take_succ_cons, List.take_zero, flowAct, Nat.zero_add, Nat.reduceAdd, Act.put, List.setIfInBounds_toArray, List.set_cons_succ, List.set_cons_zero]
        rfl
      · simp only [List.take_succ_cons, List.take_zero, flowStepsF]
        refine ⟨?_, ?_, ?_, ?_, ?_, ?_, ?_, ?_, ?_, ?_, trivial⟩
        · intro us W K hE hd hK
          dsimp only at hK ⊢
          have HK := Lib.hid hK; have HE := Lib.hid hE
          clear hK hd hE
          go_wp2_with fail
          exact K_at (HK.out (.slice (some ⟨b1, p1, none⟩) n c) W (fun _ _ => rfl) (Ext.refl W)) (by kernel_rfl)
        · intro us W K hE hd hK
          dsimp only at hK ⊢
          have HK := Lib.hid hK; have HE := Lib.hid hE
          clear hK hd hE
          go_wp2_with fail
          exact K_at (HK.out (.int .i64 (t : Int)) W (fun _ _ => rfl) (Ext.refl W)) (by kernel_rfl)
        · intro us W K hE hd hK
          have d0 := hd 0 (by kernel_rfl)
          have d1 := hd 1 (by kernel_rfl)
          dsimp only at hK ⊢
          rw [d0, d1] at hK ⊢
          have HK := Lib.hid hK; have HE := Lib.hid hE
          clear hK hd hE d0 d1
          go_wp2_with fail
          exact K_at (HK.out (.pointer (some ⟨b1, p1 + t * 22, none⟩)) W (fun _ _ => rfl) (Ext.refl W)) (by kernel_rfl)
        · intro us W K hE hd hK
          have d2 := hd 2 (by kernel_rfl)
          have HRW := Lib.hid (HR1.out W (EI.out.next (sg_undrew hE)))
          dsimp only at hK ⊢
          rw [d2] at hK ⊢
          have HK := Lib.hid hK; have HE := Lib.hid hE
          clear hK hd hE d2
          go_wp2_with (go_loud (refine wpList_midw (by rfl) 27 (.tmp 19) rfl b1 (p1 + t * 22) rfl (rxC x) HRW.out Try.underlying27 rfl (info_rev.trans (congrArg some HX22.out.symm)) ?_))
          exact K_at (HK.out (.agg (rxC x).toArray) W (fun _ _ => rfl) (Ext.refl W)) (by kernel_rfl)
        · intro us W K hE hd hK
          dsimp only at hK ⊢
          have HK := Lib.hid hK; have HE := Lib.hid hE
          clear hK hd hE
          go_wp2_with fail
          exact K_at (HK.out (.slice (some ⟨b2, p2, none⟩) n d) W (fun _ _ => rfl) (Ext.refl W)) (by kernel_rfl)
        · intro us W K hE hd hK
          dsimp only at hK ⊢
          have HK := Lib.hid hK; have HE := Lib.hid hE
          clear hK hd hE
          go_wp2_with fail
          exact K_at (HK.out (.int .i64 (t : Int)) W (fun _ _ => rfl) (Ext.refl W)) (by kernel_rfl)
        · intro us W K hE hd hK
          have d4 := hd 4 (by kernel_rfl)
          have d5 := hd 5 (by kernel_rfl)
          dsimp only at hK ⊢
          rw [d4, d5] at hK ⊢
          have HK := Lib.hid hK; have HE := Lib.hid hE
          clear hK hd hE d4 d5
          go_wp2_with fail
          exact K_at (HK.out (.pointer (some ⟨b2, p2 + t * 22, none⟩)) W (fun _ _ => rfl) (Ext.refl W)) (by kernel_rfl)
        · intro us W K hE hd hK
          have d6 := hd 6 (by kernel_rfl)
          have HRW := Lib.hid (HR2.out W (EI.out.next (sg_undrew hE)))
          dsimp only at hK ⊢
          rw [d6] at hK ⊢
          have HK := Lib.hid hK; have HE := Lib.hid hE
          clear hK hd hE d6
          go_wp2_with (go_loud (refine wpList_midw (by rfl) 27 (.tmp 23) rfl b2 (p2 + t * 22) rfl (rxC y) HRW.out Try.underlying27 rfl (info_rev.trans (congrArg some HY22.out.symm)) ?_))
          exact K_at (HK.out (.agg (rxC y).toArray) W (fun _ _ => rfl) (Ext.refl W)) (by kernel_rfl)
        · intro us W K hE hd hK
          have d3 := hd 3 (by kernel_rfl)
          have d7 := hd 7 (by kernel_rfl)
          have HCW := Lib.hid (HC.out W (EI.out.next (sg_undrew hE)))
          dsimp only at hK ⊢
          rw [d3, d7] at hK ⊢
          have HK := Lib.hid hK; have HE := Lib.hid hE
          clear hK hd hE d3 d7
          go_wp2_with (go_loud (go_at_call 21; (with_reducible refine HCW.out.mono ?_); rintro e w6 ⟨rfl, hB6⟩))
          exact K_at (HK.out (.bool true) w6 (fun _ _ => rfl) hB6) (by kernel_rfl)
        · intro us W K hE hd hK
          have d8 := hd 8 (by kernel_rfl)
          dsimp only at hK ⊢
          rw [d8] at hK ⊢
          have HK := Lib.hid hK; have HE := Lib.hid hE
          clear hK hd hE d8
          go_wp2_with fail
          exact K_at (HK.out (.bool false) W (fun _ _ => rfl) (Ext.refl W)) (by kernel_rfl)
      · intro us W hE hd
        try dsimp only
        have d9 := hd 9 (by decide)
        simp only [List.drop_succ_cons, List.drop_zero]
        rw [d9]
        have EW := Lib.hid (EI.out.next (sg_undrew hE))
        clear hd hE d9
        go_wp2_with fail
        exact ⟨⟨t + 1, HTN.out, by go_num, EW.out⟩, by have := HTN.out; simp [intOf]; omega⟩
    · obtain rfl : t = n := by omega
      go_wp2_with fail
      go_ret
      exact ⟨rfl, EI.out⟩
end Go.Proofs.Ytphabdlcjpfbaaa
