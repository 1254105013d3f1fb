/- The walks of the decoders of lists, of the code and of the reference. No condition beyond a bound on the length. -/
import Derived.Test.YtkgmoklifkojhaaCntB
import Derived.Test.YtkgmoklifkojhaaEncA
namespace Go.Proofs.Ytkgmoklifkojhaa
open Go.RowKit
theorem winfo_int : (Try.prog.info? 3).map (fun i => (i.zero, i.size, i.bytes)) = some (some (.int .i64 0), 1, 8) := by kernel_rfl
theorem winfo_str : (Try.prog.info? 9).map (fun i => (i.zero, i.size, i.bytes)) = some (some (.string ⟨#[]⟩), 1, 16) := by kernel_rfl
theorem decList_err0 {α : Type} (one : List Int → α × Int × Int) (l : List Int) (er : Int) (h : cntI l 1 = (0, 0, er)) (he : er ≠ 0) : decList one l = ([], 0, er) := by
  unfold decList; rw [h, if_pos he]
theorem decList_err1 {α : Type} (one : List Int → α × Int × Int) (l : List Int) (m k : Nat) (er : Int) (h : cntI l 1 = ((m : Int), (k : Int), 0)) (he : er ≠ 0) (hd : (decMany one m (l.drop k)).1 = er) : decList one l = ([], 0, er) := by
  unfold decList; rw [h]; simp [hd, he]
theorem decList_ok {α : Type} (one : List Int → α × Int × Int) (l : List Int) (m k p : Nat) (xs : List α) (h : cntI l 1 = ((m : Int), (k : Int), 0)) (hd : decMany one m (l.drop k) = joinD xs (p - k) (0, [], 0)) (hp : k ≤ p) : decList one l = (xs, (p : Int), 0) := by
  unfold decList; rw [h]; simp [hd, joinD]; omega
/-- The rest of a slice from place p on, wherever it lies. -/
theorem rd_rest {w : World} {B b o n : Nat} {l : List Int} (h : Rd w B (some ⟨b, o, none⟩) n (u8s l)) (p : Nat) (hp : p ≤ n) : Rd w B (some ⟨b, o + p, none⟩) (n - p) (u8s (l.drop p)) := by
  have := h.slice p (n - p) (by omega)
  have hl : l.length = n := by simpa [u8s] using h.1
  rw [u8s_dt, List.take_of_length_le (by rw [List.length_drop]; omega)] at this
  exact this
set_option maxHeartbeats 2000000 in
set_option maxRecDepth 100000 in
theorem rgints_any (l : List Int) (A0 : Option Addr) (n c : Nat) (w : World) (hl : Rd w w.heap.size A0 n (u8s l)) (hby : Byt l) (hnc : n ≤ c) (hc : c ≤ 9223372036854775807) (hn : n ≤ 1000000000000) :
    Calls Try.prog 49 #[.slice A0 n c] w fun e w' => (∃ A' c', e = .returned (.tuple #[.slice A' (decList getI l).1.length c', .int .i64 (decList getI l).2.1, .int .i64 (decList getI l).2.2]) ∧
      w'.ownsRow w.heap.size 3 1 (.slice A' (decList getI l).1.length c') (decList getI l).1.length ((decList getI l).1.map (Value.int .i64))) ∧ Below w.heap.size w w' := by
  obtain ⟨i0, hi, hz0, hz1, hz2⟩ := info_parts winfo_int
  have hlen : l.length = n := by simpa [u8s] using hl.1
  have HL := Lib.hid hl
  rcases cntI_cases l hby 1 (Nat.le_refl _) with ⟨er, hg, he⟩ | ⟨m, k, hg, h1, h9, hk, hm, henc⟩
  · have HC := Lib.hid hg
    have hne2 : er ≠ 0 := by rcases he with rfl | rfl <;> decide
    have HD : Hid (decList getI l = ([], 0, er)) := Lib.hid (decList_err0 _ l er hg hne2)
    have hne : ((er : Int) == 0) = false := by rcases he with rfl | rfl <;> rfl
    clear hg hl hlen he
    go_enter Try.func49, Try.ntmps49
    go_wp2_with (go_at_call 54; (with_reducible refine (rcount1_any l _ n _ w HL.out hby hnc hc hn).mono ?_); rintro e w0 ⟨rfl, hB⟩; rw [HC.out]; unfold tup3; have HB0 : Hid (Ext w w0) := Lib.hid hB; clear hB)
    go_ret3
    exact ⟨⟨none, 0, by rw [HD.out]; rfl, by rw [HD.out]; exact World.ownsRow_nil _ _ _ _⟩, HB0.out⟩
  · have HC := Lib.hid hg
    obtain ⟨b, o, rfl, hb, _⟩ := hl.2 (by omega)
    have HLEN := Lib.hid hlen
    have hk1 : k + m ≤ n := by omega
    clear hg hl hlen henc hk
    go_enter Try.func49, Try.ntmps49
    go_wp2_with (go_at_call 54; (with_reducible refine (rcount1_any l _ n _ w HL.out hby hnc hc hn).mono ?_); rintro e w0 ⟨rfl, hB⟩; rw [HC.out]; unfold tup3; have HB0 : Hid (Ext w w0) := Lib.hid hB; clear hB)
    go_loopw [9, 6, 8] (fun i s6 s8 wr => ∃ (t p : Nat) (xs : List Int) (A : Option Addr) (c' : Nat), t ≤ m ∧ i = .int .i64 t ∧ s6 = .int .i64 p ∧ s8 = .slice A t c' ∧ k ≤ p ∧ p ≤ n ∧ wr.ownsRow w.heap.size 3 1 (.slice A t c') t (xs.map (Value.int .i64)) ∧ Hid (xs.length = t) ∧
        Hid (decMany getI m (l.drop k) = joinD xs (p - k) (decMany getI (m - t) (l.drop p))) ∧ Below w.heap.size w wr)
      (fun i _ _ _ => m - (intOf i).toNat)
    case atStart => exact ⟨0, k, [], none, 0, Nat.zero_le _, rfl, rfl, rfl, Nat.le_refl _, by omega, World.ownsRow_nil _ _ _ _, Lib.hid rfl, Lib.hid (by simp [joinD]), HB0.out⟩
    case round =>
      obtain ⟨t, p, xs, A, c', ht, rfl, rfl, rfl, hkp, hpn, hown, HXL, HJ, hB⟩ := hrel
      have hs := hB.size
      by_cases hlt : t < m
      · have hby2 : Byt (l.drop p) := hby.drop p
        have HBE : Hid (Ext w wr) := Lib.hid hB
        have HRR : Hid (Rd wr wr.heap.size (some ⟨b, o + p, none⟩) (n - p) (u8s (l.drop p))) := Lib.hid ((rd_rest HL.out p hpn).ext' hB)
        have HR0 : Hid (n - p = 0 → Rd wr wr.heap.size (some ⟨b, o, none⟩) 0 (u8s (l.drop p))) := Lib.hid (fun h => by
          rw [List.drop_of_length_le (by rw [HLEN.out]; omega)]; exact Rd.nil _ _ _)
        have HJS : Hid (∀ (x : Int) (u : Nat), getI (l.drop p) = (x, (u : Int), 0) → decMany getI m (l.drop k) = joinD (xs ++ [x]) (p + u - k) (decMany getI (m - (t + 1)) (l.drop (p + u)))) := Lib.hid (fun x u h => by
          have e : m - t = (m - (t + 1)) + 1 := by omega
          rw [HJ.out, e, joinD_step getI _ _ xs _ u x h, List.drop_drop]
          congr 1
          omega)
        have HJE : Hid (∀ er : Int, er ≠ 0 → (getI (l.drop p)).2.2 = er → decList getI l = ([], 0, er)) := Lib.hid (fun er he h => by
          have e : m - t = (m - (t + 1)) + 1 := by omega
          refine decList_err1 _ l m k er HC.out he ?_
          rw [HJ.out, e]
          exact joinD_err _ _ _ _ _ er he h)
        have hc2 : c - p ≤ 9223372036854775807 := by omega
        have hnn : n - p ≤ c - p := by omega
        have hn2 : n - p ≤ 1000000000000 := by omega
        rcases getI_cases (l.drop p) hby2 with ⟨er, hg, he⟩ | ⟨x, u, hg, hu1, -, hul, -, -, -⟩
        · have HG := Lib.hid hg
          have hne : ((er : Int) == 0) = false := by rcases he with rfl | rfl <;> rfl
          have hne2 : er ≠ 0 := by rcases he with rfl | rfl <;> decide
          have HD := Lib.hid (HJE.out er hne2 (by rw [hg]))
          clear hg he hown hB
          by_cases hpc : p = c
          · have HR1 := Lib.hid (HR0.out (by omega))
            have hpn2 : n = p := by omega
            clear hnn hc2 hn2
            subst hpn2
            have hz0' : (0 : Nat) ≤ 1000000000000 := by omega
            have hz1' : (0 : Nat) ≤ 9223372036854775807 := by omega
            have hz2' : (0 : Nat) ≤ 0 := Nat.le_refl _
            subst hpc
            go_wp2_with (go_at_call 55; (with_reducible refine (rgint_any (l.drop n) _ 0 0 wr HR1.out hby2 hz2' hz1').mono ?_); rintro e w1 ⟨rfl, hB3⟩; rw [HG.out]; unfold tup3; have HB3 : Hid (Ext wr w1) := Lib.hid hB3; clear hB3)
            go_ret3
            exact ⟨⟨none, 0, by rw [HD.out]; rfl, by rw [HD.out]; exact World.ownsRow_nil _ _ _ _⟩, HBE.out.next HB3.out⟩
          · go_wp2_with (go_at_call 55; (with_reducible refine (rgint_any (l.drop p) _ (n - p) (c - p) wr HRR.out hby2 hnn hc2).mono ?_); rintro e w1 ⟨rfl, hB3⟩; rw [HG.out]; unfold tup3; have HB3 : Hid (Ext wr w1) := Lib.hid hB3; clear hB3)
            go_ret3
            exact ⟨⟨none, 0, by rw [HD.out]; rfl, by rw [HD.out]; exact World.ownsRow_nil _ _ _ _⟩, HBE.out.next HB3.out⟩
        · have HG := Lib.hid hg
          have hul2 : p + u ≤ n := by rw [List.length_drop, HLEN.out] at hul; omega
          have HJ2 := Lib.hid (HJS.out x u hg)
          have HXL2 : Hid ((xs ++ [x]).length = t + 1) := Lib.hid (by rw [List.length_append, HXL.out]; rfl)
          have hpc : ¬ p = c := by omega
          clear hg hul
          go_wp2_with (first
            | (go_at_call 55; (with_reducible refine (rgint_any (l.drop p) _ (n - p) (c - p) wr HRR.out hby2 hnn hc2).mono ?_); rintro e w1 ⟨rfl, hB3⟩; rw [HG.out]; unfold tup3; have HB3 : Hid (Ext wr w1) := Lib.hid hB3; clear hB3; have hownk := own_below hown HB3.out; have hs3 := HB3.out.size; clear hown)
            | (at_builtin; refine wpList_app rfl (.tmp 38) (.tmp 40) 23 rfl w.heap.size 3 i0 (.int .i64 0) 1 8 Try.underlying23 hi hz0 hz1 hz2 rfl (by omega) A t c' _ rfl (hownk.alloc _) (w1.heap.size + 1) _ 1 1 [.int .i64 x] rfl (RdN.fresh [.int .i64 x] _ _ 1 1 rfl rfl rfl) (by intro u hu; rw [List.mem_singleton] at hu; subst hu; rfl) (by simp only [maxLen]; omega) (by omega) (by simp; omega) ?_; intro A4 c4 w4 hown4 hg4; have hb4 := below_app (Ext.alloc (HBE.out.next HB3.out) _) hg4 (hownk.alloc _) (Nat.le_refl _) (by simp; omega)))
          go_roundw
          case rel => exact ⟨t + 1, p + u, xs ++ [x], A4, c4, by omega, by go_num, by go_num, rfl, by omega, by omega, by rw [List.map_append]; exact hown4, HXL2, HJ2, hb4⟩
          case measure => simp [intOf]; omega
      · obtain rfl : t = m := by omega
        have HD : Hid (decList getI l = (xs, (p : Int), 0)) := Lib.hid (decList_ok _ l t k p xs HC.out (by rw [HJ.out, Nat.sub_self]; rfl) hkp)
        go_wp2_with fail
        go_ret3
        exact ⟨⟨A, c', by rw [HD.out, HXL.out]; rfl, by rw [HD.out, HXL.out]; exact hown⟩, hB⟩
end Go.Proofs.Ytkgmoklifkojhaa
