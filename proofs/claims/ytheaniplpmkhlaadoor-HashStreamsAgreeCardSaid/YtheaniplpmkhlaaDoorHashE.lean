/- The walks of the reference's Input, Short, Of. No condition. -/
import Derived.Test.YtheaniplpmkhlaaDoorWireC
import Derived.Test.YtheaniplpmkhlaaDoorSmallA
namespace Go.Proofs.YtheaniplpmkhlaaDoor
open Go.RowKit
/-- The encodings of strings, one behind the other. -/
def encs : List ByteArray → List Int
  | [] => []
  | s :: r => encB s ++ encs r
theorem encs_append (a b : List ByteArray) : encs (a ++ b) = encs a ++ encs b := by
  induction a with
  | nil => rfl
  | cons s r ih => simp [encs, ih]
theorem encs_take (l : List ByteArray) (t : Nat) (h : t < l.length) : encs (l.take (t + 1)) = encs (l.take t) ++ encB (l.getD t ByteArray.empty) := by
  have : l[t]? = some (l.getD t ByteArray.empty) := by simp [List.getD_eq_getElem?_getD, List.getElem?_eq_getElem h]
  rw [List.take_add_one, this, encs_append]
  simp [encs]
theorem encs_take_le (l : List ByteArray) (t : Nat) : (encs (l.take t)).length ≤ (encs l).length := by
  conv => rhs; rw [← List.take_append_drop t l, encs_append, List.length_append]
  omega
theorem encs_few (l : List ByteArray) (h : ∀ s ∈ l, s.size ≤ 400) : (encs l).length ≤ 409 * l.length := by
  induction l with
  | nil => simp [encs]
  | cons s r ih =>
    have h1 := h s (List.mem_cons_self ..)
    have h2 := ih fun x hx => h x (List.mem_cons_of_mem _ hx)
    have h3 := blen_le (mag s.size) (mag_lt8 s.size (by omega) (by omega))
    simp only [encs, List.length_append, encB_length, List.length_cons]
    omega
theorem encs_byt (l : List ByteArray) (h : (encs l).length ≤ 1000000000000) : Byt (encs l) := by
  induction l with
  | nil => exact Byt.nil
  | cons s r ih =>
    have h3 := encB_length s
    simp only [encs, List.length_append] at h ⊢
    exact (encB_byt s (by omega)).app (ih (by omega))
/-- What Of hashes. -/
def inputB (tag : Int) (l : List ByteArray) : List Int := tag % 256 :: encs l
theorem inputB_byt (tag : Int) (l : List ByteArray) (h : (encs l).length ≤ 1000000000000) : Byt (inputB tag l) := by
  intro x hx
  rcases List.mem_cons.1 hx with rfl | hx
  · omega
  · exact encs_byt l h x hx
set_option maxHeartbeats 400000 in
set_option maxRecDepth 100000 in
theorem input_any (tag : Int) (l : List ByteArray) (A : Option Addr) (n c : Nat) (w : World) (hl : Rd w w.heap.size A n (strs l)) (hn : n ≤ 9223372036854775807) (hcat : (encs l).length ≤ 100000000000) :
    Calls Tryd.prog 23 #[.int .i64 tag, .slice A n c] w fun e w' => (∃ A' c', e = .returned (.slice A' (inputB tag l).length c') ∧ w'.ownsRow w.heap.size 5 1 (.slice A' (inputB tag l).length c') (inputB tag l).length (u8s (inputB tag l))) ∧ Below w.heap.size w w' := by
  obtain ⟨i0, hi, hz0, hz1, hz2⟩ := info_parts winfo_u8
  have hlen : l.length = n := by simpa [strs] using hl.1
  have HCAT : Hid (∀ t, (encs (l.take t)).length ≤ 100000000000) := Lib.hid (fun t => Nat.le_trans (encs_take_le l t) hcat)
  have HL := Lib.hid hl
  have HN := Lib.hid hlen
  have HIN : Hid (∀ m, inputB tag m = tag % 256 :: encs m) := Lib.hid fun _ => rfl
  clear hl hlen hcat
  go_enter Tryd.func23, Tryd.ntmps23
  go_wp2_with fail
  go_loopw [6, 5] (fun i s5 wr => ∃ (t : Nat) (A : Option Addr) (c m : Nat), t ≤ n ∧ i = .int .i64 t ∧ s5 = .slice A m c ∧ m = (inputB tag (l.take t)).length ∧ wr.ownsRow w.heap.size 5 1 (.slice A m c) m (u8s (inputB tag (l.take t))) ∧ Below w.heap.size w wr)
    (fun i _ _ => n - (intOf i).toNat)
  case atStart => exact ⟨0, _, _, 1, Nat.zero_le _, rfl, rfl, rfl, own_lit w _ _ _ (u8s [tag % 256]) _ 1 rfl rfl (Nat.le_refl _) rfl (by decide), (Below.refl _ _).alloc (Nat.le_refl _) _⟩
  case round =>
    obtain ⟨t, A2, c2, m, ht, rfl, rfl, hm, hown, hB⟩ := hrel
    have hs := hB.size
    by_cases hlt : t < n
    · obtain ⟨b, o, rfl, hb, hc⟩ := HL.out.2 (by omega)
      have c0 := (hB.cell (p := ⟨b, o + t, none⟩) hb).trans (hc t _ (strs_get l t (by rw [HN.out]; exact hlt)))
      have hT := encs_take l t (by rw [HN.out]; exact hlt)
      have hsz := HCAT.out (t + 1)
      rw [hT, List.length_append] at hsz
      have hss : (l.getD t ByteArray.empty).size ≤ 1000000000000 := by
        have := encB_length (l.getD t ByteArray.empty)
        omega
      have hm2 : m + (encB (l.getD t ByteArray.empty)).length ≤ 100000000001 := by
        rw [hm]; simp only [inputB, List.length_cons]; omega
      have HT : Hid (inputB tag (l.take (t + 1)) = inputB tag (l.take t) ++ encB (l.getD t ByteArray.empty)) := Lib.hid (by simp [inputB, hT])
      have HM := Lib.hid hm
      clear hc hT hsz hm
      generalize l.getD t ByteArray.empty = s at *
      go_wp2_with (first
        | (go_at_call 35; refine (rbytes_any s _ hss).mono ?_; rintro e w1 ⟨⟨A3, c3, rfl, hown3⟩, hB3⟩; have hs3 := hB3.size; have HR3 := Lib.hid (RdN.of_Rd (Rd.of_own hown3)); have hownk := own_below hown hB3; clear hown hown3)
        | (at_builtin; refine wpList_app rfl (.tmp 16) (.tmp 21) 22 rfl w.heap.size 5 i0 (.int .u8 0) 1 1 Tryd.underlying22 hi hz0 hz1 hz2 rfl (by omega) A2 m c2 _ rfl hownk w1.heap.size _ _ c3 _ rfl HR3.out (u8s_one _) (by simp only [maxLen]; omega) (by omega) (by omega) ?_; intro A4 c4 w4 hown4 hg4; have hb4 := below_app (hB.trans (hB3.mono hs)) hg4 hownk (Nat.le_refl _) (by omega)))
      all_goals go_roundw
      case rel => exact ⟨t + 1, A4, c4, _, by omega, by go_num, rfl, by rw [HT.out, List.length_append, HM.out], by rw [HT.out, u8s_append]; exact hown4, hb4⟩
      case measure => simp [intOf]; omega
    · obtain rfl : t = n := by omega
      have HTN : Hid (l.take t = l) := Lib.hid (List.take_of_length_le (by rw [HN.out]; omega))
      have HM := Lib.hid hm
      clear hm
      go_wp2_with fail
      go_ret
      rw [HM.out, HTN.out] at hown
      exact ⟨⟨A2, c2, by rw [HM.out, HTN.out]; rfl, hown⟩, hB⟩
end Go.Proofs.YtheaniplpmkhlaaDoor
