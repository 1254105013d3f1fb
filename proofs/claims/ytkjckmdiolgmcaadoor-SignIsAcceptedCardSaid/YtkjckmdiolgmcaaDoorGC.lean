/- The walks of count and GetBytes, of the code and of the reference. No condition beyond a bound on the length. -/
import Derived.Test.YtkjckmdiolgmcaaDoorGA
import Derived.Test.YtkjckmdiolgmcaaDoorGB
set_option linter.unusedSimpArgs false
set_option linter.unusedVariables false
namespace Go.Proofs.YtkjckmdiolgmcaaDoor
open Go.RowKit
theorem mul_iff {n k v s : Int} (hs : 1 ≤ s) : (n - k < v * s) ↔ (n - k) / s < v := by
  constructor
  · intro h
    exact Int.not_le.1 (fun h2 => by have := (Int.le_ediv_iff_mul_le (show 0 < s by omega)).1 h2; omega)
  · intro h
    exact Int.not_le.1 (fun h2 => by have := (Int.le_ediv_iff_mul_le (show 0 < s by omega)).2 h2; omega)
end Go.Proofs.YtkjckmdiolgmcaaDoor

/- The walks of GetBytes, of the code and of the reference. No condition beyond a bound on the length. -/
namespace Go.Proofs.YtkjckmdiolgmcaaDoor
open Go.RowKit
def tupS (x : ByteArray × Int × Int) : Value := .tuple #[.string x.1, .int .i64 x.2.1, .int .i64 x.2.2]
theorem u8s_dt (l : List Int) (k m : Nat) : ((u8s l).drop k).take m = u8s ((l.drop k).take m) := by simp [u8s, List.map_drop, List.map_take]
end Go.Proofs.YtkjckmdiolgmcaaDoor

/- The walks of the encoders of lists of integers and of texts, of the code and of the reference. No condition beyond bounds on the sizes. -/
namespace Go.Proofs.YtkjckmdiolgmcaaDoor
open Go.RowKit
/-- A counted list, encoded. -/
def encL {α : Type} (f : α → List Int) (l : List α) : List Int := encInt l.length ++ l.flatMap f
/-- The count and the first t elements. -/
def encTo {α : Type} (f : α → List Int) (l : List α) (t : Nat) : List Int := encInt l.length ++ (l.take t).flatMap f
theorem encTo_succ {α : Type} (f : α → List Int) (l : List α) (t : Nat) (d : α) (h : t < l.length) : encTo f l (t + 1) = encTo f l t ++ f (l.getD t d) := by
  have : l[t]? = some (l.getD t d) := by simp [List.getD_eq_getElem?_getD, List.getElem?_eq_getElem h]
  unfold encTo
  rw [List.take_add_one, this, List.flatMap_append]
  simp
theorem encTo_full {α : Type} (f : α → List Int) (l : List α) : encTo f l l.length = encL f l := by unfold encTo encL; rw [List.take_length]
theorem encTo_le {α : Type} (f : α → List Int) (l : List α) (t : Nat) : (encTo f l t).length ≤ (encL f l).length := by
  unfold encTo encL
  rw [List.length_append, List.length_append]
  have : (l.flatMap f).length = ((l.take t).flatMap f).length + ((l.drop t).flatMap f).length := by
    rw [← List.length_append, ← List.flatMap_append, List.take_append_drop]
  omega
theorem getD_mem {α : Type} {l : List α} {t : Nat} (d : α) (h : t < l.length) : l.getD t d ∈ l := by
  rw [List.getD_eq_getElem?_getD, List.getElem?_eq_getElem h]; exact List.getElem_mem h
theorem wintL_any (n : Int) (w : World) (h0 : -9223372036854775808 ≤ n) (h1 : n ≤ 9223372036854775807) :
    Calls Tryd.prog 17 #[.int .i64 n] w fun e w' => (∃ A c, e = .returned (.slice A (encInt n).length c) ∧ w'.ownsRow w.heap.size 5 1 (.slice A (encInt n).length c) (encInt n).length (u8s (encInt n))) ∧ Below w.heap.size w w' := by
  rw [encInt_length]; exact wint_any n w h0 h1
theorem encInt_le9 (n : Int) (h0 : -9223372036854775808 ≤ n) (h1 : n ≤ 9223372036854775807) : (encInt n).length ≤ 9 := by
  rw [encInt_length]
  have := blen_le (mag n) (mag_lt8 n h0 h1)
  omega
set_option maxHeartbeats 1000000 in
set_option maxRecDepth 100000 in
theorem ints_any (l : List Int) (A : Option Addr) (n c : Nat) (w : World) (hl : Rd w w.heap.size A n (l.map (Value.int .i64))) (hwf : ∀ x ∈ l, -9223372036854775808 ≤ x ∧ x ≤ 9223372036854775807) (hcat : (encL encInt l).length ≤ 100000000000) (hn : n ≤ 9223372036854775807) :
    Calls Tryd.prog 37 #[.slice A n c] w fun e w' => (∃ A' c', e = .returned (.slice A' (encL encInt l).length c') ∧ w'.ownsRow w.heap.size 5 1 (.slice A' (encL encInt l).length c') (encL encInt l).length (u8s (encL encInt l))) ∧ Below w.heap.size w w' := by
  obtain ⟨i0, hi, hz0, hz1, hz2⟩ := info_parts winfo_u8
  have hlen : l.length = n := by simpa using hl.1
  have HCAT : Hid (∀ t, (encTo encInt l t).length ≤ 100000000000) := Lib.hid (fun t => Nat.le_trans (encTo_le _ l t) hcat)
  have HL := Lib.hid hl
  have HN := Lib.hid hlen
  have HT0 : Hid (encTo encInt l 0 = encInt n) := Lib.hid (by unfold encTo; rw [hlen]; simp)
  have HTN : Hid (encTo encInt l n = encL encInt l) := Lib.hid (by rw [← hlen]; exact encTo_full _ l)
  have HWF := Lib.hid hwf
  have hn0 : (-9223372036854775808 : Int) ≤ (n : Int) := by omega
  have hn1 : (n : Int) ≤ 9223372036854775807 := by omega
  clear hl hlen hcat hwf
  go_enter Tryd.func37, Tryd.ntmps37
  go_wp2_with (go_at_call 17; (with_reducible refine (wintL_any (n : Int) w hn0 hn1).mono ?_); rintro e w1 ⟨⟨A1, c1, rfl, hown1⟩, hB1⟩)
  go_loopw [11, 3] (fun i s5 wr => ∃ (t : Nat) (A : Option Addr) (c m : Nat), t ≤ n ∧ i = .int .i64 t ∧ s5 = .slice A m c ∧ m = (encTo encInt l t).length ∧ wr.ownsRow w.heap.size 5 1 (.slice A m c) m (u8s (encTo encInt l t)) ∧ Below w.heap.size w wr)
    (fun i _ _ => n - (intOf i).toNat)
  case atStart => exact ⟨0, _, _, _, Nat.zero_le _, rfl, rfl, by rw [HT0.out], by rw [HT0.out]; exact hown1, hB1⟩
  case round =>
    clear hown1 hB1
    obtain ⟨t, A2, c2, m, ht, rfl, rfl, hm, hown, hB⟩ := hrel
    have hs := hB.size
    by_cases hlt : t < n
    · obtain ⟨b, o, rfl, hb, hc⟩ := rd_vals 0 HL.out (by omega)
      have c0 := (hB.cell (p := ⟨b, o + t, none⟩) hb).trans (hc t hlt)
      have hx := HWF.out _ (getD_mem 0 (by rw [HN.out]; exact hlt : t < l.length))
      have hT := encTo_succ encInt l t 0 (by rw [HN.out]; exact hlt)
      have hsz := HCAT.out (t + 1)
      rw [hT, List.length_append] at hsz
      have hm2 : m + (encInt (l.getD t 0)).length ≤ 100000000000 := by rw [hm]; exact hsz
      have HT := Lib.hid hT
      have HM := Lib.hid hm
      clear hc hT hsz hm
      generalize l.getD t 0 = x at *
      go_wp2_with (first
        | (go_at_call 17; refine (wintL_any x _ hx.1 hx.2).mono ?_; rintro e w1 ⟨⟨A3, c3, rfl, hown3⟩, hB3⟩; have hs3 := hB3.size; have HR3 := Lib.hid (RdN.of_Rd (Rd.of_own hown3)); have hownk := own_below hown hB3; clear hown hown3)
        | (at_builtin; refine wpList_app rfl (.tmp 15) (.tmp 17) 43 rfl w.heap.size 5 i0 (.int .u8 0) 1 1 Tryd.underlying43 hi hz0 hz1 hz2 rfl (by omega) A2 m c2 _ rfl hownk w1.heap.size _ _ c3 _ rfl HR3.out (u8s_one _) (by simp only [maxLen]; omega) (by omega) (by omega) ?_; intro A4 c4 w4 hown4 hg4; have hb4 := below_app (hB.trans (hB3.mono hs)) hg4 hownk (Nat.le_refl _) (by omega)))
      all_goals go_roundw
      case rel => exact ⟨t + 1, A4, c4, _, by omega, by go_num, rfl, by rw [HT.out, List.length_append, HM.out], by rw [HT.out, u8s_append]; exact hown4, hb4⟩
      case measure => simp [intOf]; omega
    · obtain rfl : t = n := by omega
      have HM := Lib.hid hm
      clear hm
      go_wp2_with fail
      go_ret
      rw [HM.out, HTN.out] at hown
      exact ⟨⟨A2, c2, by rw [HM.out, HTN.out]; rfl, hown⟩, hB⟩
end Go.Proofs.YtkjckmdiolgmcaaDoor

/- The walks of the decoders of lists, of the code and of the reference. No condition beyond a bound on the length. -/
namespace Go.Proofs.YtkjckmdiolgmcaaDoor
open Go.RowKit
theorem winfo_int : (Tryd.prog.info? 3).map (fun i => (i.zero, i.size, i.bytes)) = some (some (.int .i64 0), 1, 8) := by kernel_rfl
theorem winfo_str : (Tryd.prog.info? 9).map (fun i => (i.zero, i.size, i.bytes)) = some (some (.string ⟨#[]⟩), 1, 16) := by kernel_rfl
theorem decList_err0 {α : Type} (one : List Int → α × Int × Int) (l : List Int) (er : Int) (h : cntI l 1 = (0, 0, er)) (he : er ≠ 0) : decList one l = ([], 0, er) := by
  unfold decList; rw [h, if_pos he]
theorem decList_err1 {α : Type} (one : List Int → α × Int × Int) (l : List Int) (m k : Nat) (er : Int) (h : cntI l 1 = ((m : Int), (k : Int), 0)) (he : er ≠ 0) (hd : (decMany one m (l.drop k)).1 = er) : decList one l = ([], 0, er) := by
  unfold decList; rw [h]; simp [hd, he]
theorem decList_ok {α : Type} (one : List Int → α × Int × Int) (l : List Int) (m k p : Nat) (xs : List α) (h : cntI l 1 = ((m : Int), (k : Int), 0)) (hd : decMany one m (l.drop k) = joinD xs (p - k) (0, [], 0)) (hp : k ≤ p) : decList one l = (xs, (p : Int), 0) := by
  unfold decList; rw [h]; simp [hd, joinD]; omega
/-- The rest of a slice from place p on, wherever it lies. -/
theorem rd_rest {w : World} {B b o n : Nat} {l : List Int} (h : Rd w B (some ⟨b, o, none⟩) n (u8s l)) (p : Nat) (hp : p ≤ n) : Rd w B (some ⟨b, o + p, none⟩) (n - p) (u8s (l.drop p)) := by
  have := h.slice p (n - p) (by omega)
  have hl : l.length = n := by simpa [u8s] using h.1
  rw [u8s_dt, List.take_of_length_le (by rw [List.length_drop]; omega)] at this
  exact this
end Go.Proofs.YtkjckmdiolgmcaaDoor

/- The walks of the reader of integers and of wire.GetInts. No condition beyond a bound on the length. -/
namespace Go.Proofs.YtkjckmdiolgmcaaDoor
open Go.RowKit
theorem grown_set (w : World) (g : Nat) (u : Value) : w.grownBy (w.setCell ⟨g, 0, none⟩ u) (some g) :=
  ⟨rfl, rfl, rfl, by simp [World.setCell], fun k _ hk => Below.heap_setCell _ _ _ _ (fun h => hk (by rw [h]))⟩
theorem grown_drewN {w w' : World} {row : Option Nat} (h : w.grownBy w' row) (n : Nat) : w.grownBy (w'.drewN n) row := ⟨h.os, h.tape, h.output, h.size, h.block⟩
end Go.Proofs.YtkjckmdiolgmcaaDoor
