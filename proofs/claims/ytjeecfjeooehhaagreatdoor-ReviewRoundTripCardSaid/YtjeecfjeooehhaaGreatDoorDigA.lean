/- The walks of the encoders of digests, of the code and of the reference. No condition beyond a bound on the length. -/
import Derived.Test.YtjeecfjeooehhaaGreatDoorGC
import Derived.Test.YtjeecfjeooehhaaGreatDoorGA
set_option linter.unusedSimpArgs false
set_option linter.unusedVariables false
namespace Go.Proofs.YtjeecfjeooehhaaGreatDoor
open Go.RowKit
/-- The cells of a list of digests. -/
def celD (ds : List (List Int)) : List Value := ds.flatMap u8s
def Dig16 (ds : List (List Int)) : Prop := ∀ d ∈ ds, d.length = 16 ∧ Byt d
theorem Dig16.nil : Dig16 [] := fun d h => by cases h
theorem Dig16.at_ {ds : List (List Int)} (h : Dig16 ds) {t : Nat} (ht : t < ds.length) : (ds.getD t []).length = 16 ∧ Byt (ds.getD t []) := h _ (getD_mem [] ht)
theorem Dig16.snoc {ds : List (List Int)} (h : Dig16 ds) {d : List Int} (hd : d.length = 16) (hb : Byt d) : Dig16 (ds ++ [d]) := fun x hx => by
  rcases List.mem_append.1 hx with hx | hx
  · exact h x hx
  · rw [List.mem_singleton] at hx; subst hx; exact ⟨hd, hb⟩
theorem celD_length : ∀ (ds : List (List Int)), (∀ d ∈ ds, d.length = 16) → (celD ds).length = ds.length * 16
  | [], _ => rfl
  | d :: r, h => by
    have h1 := h d (List.mem_cons_self ..)
    have ih := celD_length r (fun x hx => h x (List.mem_cons_of_mem _ hx))
    unfold celD at ih ⊢
    rw [List.flatMap_cons, List.length_append, u8s_length, h1, ih, List.length_cons]
    omega
theorem celD_get : ∀ (ds : List (List Int)) (t j : Nat), (∀ d ∈ ds, d.length = 16) → t < ds.length → j < 16 → (celD ds)[t * 16 + j]? = some (.int .u8 ((ds.getD t []).getD j 0))
  | [], t, j, _, ht, _ => by cases ht
  | d :: r, t, j, h, ht, hj => by
    have h1 := h d (List.mem_cons_self ..)
    unfold celD
    rw [List.flatMap_cons]
    cases t with
    | zero =>
      rw [List.getElem?_append_left (by rw [u8s_length, h1]; omega), Nat.zero_mul, Nat.zero_add, u8s_get _ _ (by omega)]
      rfl
    | succ t =>
      have ih := celD_get r t j (fun x hx => h x (List.mem_cons_of_mem _ hx)) (by simpa using ht) hj
      rw [List.getElem?_append_right (by rw [u8s_length, h1]; omega), u8s_length, h1, show (t + 1) * 16 + j - 16 = t * 16 + j by omega]
      exact ih
theorem celD_snoc (ds : List (List Int)) (d : List Int) : celD (ds ++ [d]) = celD ds ++ u8s d := by simp [celD]
/-- A slice of digests that came in. -/
theorem rd_dig {w : World} {B : Nat} {A : Option Addr} {n : Nat} {ds : List (List Int)} (h : RdN w B 16 A n (celD ds)) (hd : Dig16 ds) (hn : 0 < n) : ds.length = n ∧ ∃ b o, A = some ⟨b, o, none⟩ ∧ b < B ∧ ∀ t j, t < n → j < 16 → w.cell? ⟨b, o + t * 16 + j, none⟩ = some (.int .u8 ((ds.getD t []).getD j 0)) := by
  have hl : ds.length = n := by
    have := h.1
    rw [celD_length ds (fun d hx => (hd d hx).1)] at this
    omega
  obtain ⟨b, o, hA, hb, hc⟩ := h.2 hn
  refine ⟨hl, b, o, hA, hb, fun t j ht hj => ?_⟩
  rw [Nat.add_assoc]
  exact hc _ _ (celD_get ds t j (fun d hx => (hd d hx).1) (by omega) hj)
theorem range_dig {w : World} {b o : Nat} {d : List Int} (hd : d.length = 16) (h : ∀ j, j < 16 → w.cell? ⟨b, o + j, none⟩ = some (.int .u8 (d.getD j 0))) : w.rangeAt b o (u8s d) := fun j v hv => by
  have hj : j < 16 := by
    have := (List.getElem?_eq_some_iff.1 hv).1
    rw [u8s_length, hd] at this; exact this
  rw [h j hj, ← hv, u8s_get _ _ (by omega)]
theorem winfo_dig : (Tryz.prog.info? 26).map (·.size) = some 16 := by kernel_rfl
def idD (d : List Int) : List Int := d
theorem encD_le (ds : List (List Int)) (h : Dig16 ds) : (ds.flatMap idD).length = 16 * ds.length := by
  induction ds with
  | nil => rfl
  | cons d r ih =>
    have h1 := (h d (List.mem_cons_self ..)).1
    have ih2 := ih (fun x hx => h x (List.mem_cons_of_mem _ hx))
    rw [List.flatMap_cons, List.length_append, ih2, List.length_cons]
    unfold idD
    omega
theorem zero16w_run (W : World) : (zeroValue 26).run Tryz.prog W = .ok (.agg (u8s (List.replicate 16 0)).toArray) W := by kernel_rfl
set_option maxHeartbeats 2000000 in
set_option maxRecDepth 100000 in
theorem digests_any (ds : List (List Int)) (A : Option Addr) (n c : Nat) (w : World) (hl : RdN w w.heap.size 16 A n (celD ds)) (hd : Dig16 ds) (hlen : ds.length = n) (hn : n ≤ 1000000000) :
    Calls Tryz.prog 67 #[.slice A n c] w fun e w' => (∃ A' c', e = .returned (.slice A' (encL idD ds).length c') ∧ w'.ownsRow w.heap.size 5 1 (.slice A' (encL idD ds).length c') (encL idD ds).length (u8s (encL idD ds))) ∧ Below w.heap.size w w' := by
  obtain ⟨i0, hi, hz0, hz1, hz2⟩ := info_parts winfo_u8
  have hn0 : (-9223372036854775808 : Int) ≤ (n : Int) := by omega
  have hn1 : (n : Int) ≤ 9223372036854775807 := by omega
  have h9 := encInt_le9 (n : Int) hn0 hn1
  have HCAT : Hid (∀ t, (encTo idD ds t).length ≤ 100000000000) := Lib.hid (fun t => Nat.le_trans (encTo_le _ ds t) (by unfold encL; rw [List.length_append, encD_le ds hd, hlen]; omega))
  have HL := Lib.hid hl
  have HN := Lib.hid hlen
  have HD := Lib.hid hd
  have HT0 : Hid (encTo idD ds 0 = encInt n) := Lib.hid (by unfold encTo; rw [hlen]; simp)
  have HTN : Hid (encTo idD ds n = encL idD ds) := Lib.hid (by rw [← hlen]; exact encTo_full _ ds)
  obtain ⟨Z, hZ⟩ : ∃ Z, Z = u8s (List.replicate 16 0) := ⟨_, rfl⟩
  have hzr : ∀ W, (zeroValue 26).run Tryz.prog W = .ok (.agg Z.toArray) W := by rw [hZ]; exact zero16w_run
  have HZL : Hid (Z.length = 16) := Lib.hid (by rw [hZ]; rfl)
  clear hl hlen hd hZ h9
  go_enter Tryz.func67, Tryz.ntmps67
  go_wp2_with (go_at_call 66; (with_reducible refine (wintL_any (n : Int) w hn0 hn1).mono ?_); rintro e w1 ⟨⟨A1, c1, rfl, hown1⟩, hB1⟩)
  go_loopw [11, 3] (fun i s5 wr => ∃ (t : Nat) (A : Option Addr) (c m : Nat), t ≤ n ∧ i = .int .i64 t ∧ s5 = .slice A m c ∧ m = (encTo idD ds t).length ∧ wr.ownsRow w.heap.size 5 1 (.slice A m c) m (u8s (encTo idD ds t)) ∧ Below w.heap.size w wr)
    (fun i _ _ => n - (intOf i).toNat)
  case atStart => exact ⟨0, _, _, _, Nat.zero_le _, rfl, rfl, by rw [HT0.out], by rw [HT0.out]; exact hown1, hB1⟩
  case round =>
    clear hown1 hB1
    obtain ⟨t, A2, c2, m, ht, rfl, rfl, hm, hown, hB⟩ := hrel
    have hs := hB.size
    by_cases hlt : t < n
    · obtain ⟨-, b, o, rfl, hb, hc⟩ := rd_dig HL.out HD.out (by omega)
      have hx := HD.out.at_ (by rw [HN.out]; exact hlt : t < ds.length)
      have hT := encTo_succ idD ds t [] (by rw [HN.out]; exact hlt)
      have hsz := HCAT.out (t + 1)
      rw [hT, List.length_append] at hsz
      have HR : Hid (wr.rangeAt b (o + t * 16) (u8s (ds.getD t []))) := Lib.hid (range_dig hx.1 (fun j hj => (hB.cell (p := ⟨b, o + t * 16 + j, none⟩) hb).trans (hc t j hlt hj)))
      obtain ⟨d, hdd⟩ : ∃ d, d = ds.getD t [] := ⟨_, rfl⟩
      rw [← hdd] at hx hsz HR hT
      have HX : Hid (d.length = 16) := Lib.hid hx.1
      have HUL : Hid ((u8s d).length = 16) := Lib.hid (by rw [u8s_length, hx.1])
      have hm2 : m + 16 ≤ 100000000000 := by rw [hm]; unfold idD at hsz; rw [hx.1] at hsz; exact hsz
      have HT : Hid (encTo idD ds (t + 1) = encTo idD ds t ++ d) := Lib.hid hT
      have HM := Lib.hid hm
      clear hc hT hsz hm hx hdd
      go_wp2_with (first
        | (refine wpList_load_mid rfl 26 (.tmp 13) (by rfl) b (o + t * 16) (by rfl) (u8s d) _ HR.out Tryz.underlying26 rfl (winfo_dig.trans (congrArg some HUL.out.symm)) ?_)
        | ((refine wpList_store_fresh rfl 26 (.tmp 5) (.tmp 14) rfl _ wr.heap.size rfl Z (u8s d) 26 (by rfl) (by rfl) rfl (winfo_dig.trans (congrArg some HUL.out.symm)) (HZL.out.trans HUL.out.symm) (u8s_one d) ?_); intro w2 hw2 hE2 hz2; have HE2 : Hid (Ext wr w2) := Lib.hid hE2; have HR3 := Lib.hid (RdN.of_Rd (hw2.rd HUL.out)); have hownk := own_below hown hE2; have hsz2 := Nat.le_of_lt hz2; clear hown hw2 hE2 hz2)
        | (at_builtin; refine wpList_app rfl (.tmp 15) (.tmp 16) 23 rfl w.heap.size 5 i0 (.int .u8 0) 1 1 Tryz.underlying23 hi hz0 hz1 hz2 rfl (by omega) A2 m c2 _ rfl hownk w2.heap.size _ 16 16 _ rfl HR3.out (u8s_one _) (by simp only [maxLen]; omega) (by omega) (by omega) ?_; intro A4 c4 w4 hown4 hg4; have hb4 := below_app (hB.trans (HE2.out.mono hs)) hg4 hownk (Nat.le_refl _) (by omega)))
      go_roundw
      case rel => exact ⟨t + 1, A4, c4, _, by omega, by go_num, rfl, by rw [HT.out, List.length_append, HM.out, HX.out], by rw [HT.out, u8s_append]; exact hown4, hb4⟩
      case measure => simp [intOf]; omega
    · obtain rfl : t = n := by omega
      have HM := Lib.hid hm
      clear hm
      go_wp2_with fail
      go_ret
      rw [HM.out, HTN.out] at hown
      exact ⟨⟨A2, c2, by rw [HM.out, HTN.out]; rfl, hown⟩, hB⟩
end Go.Proofs.YtjeecfjeooehhaaGreatDoor
