/- The walks of the reader of integers and of wire.GetInts. No condition beyond a bound on the length. -/
import Derived.Test.YtkgmoklifkojhaaDecL
namespace Go.Proofs.Ytkgmoklifkojhaa
open Go.RowKit
set_option maxHeartbeats 1000000 in
set_option maxRecDepth 100000 in
theorem reader_any (A : Option Addr) (n c : Nat) (p : Int) (w : World) :
    Calls Try.prog 53 #[.slice A n c, .int .i64 p] w fun e w' => e = .returned (.func (Fn.func 57) #[] #[.pointer (some ⟨w.heap.size, 0, none⟩), .pointer (some ⟨w.heap.size + 1, 0, none⟩)]) ∧
      Blk w' w.heap.size 33 [.slice A n c] ∧ Blk w' (w.heap.size + 1) 3 [.int .i64 p] ∧ Below w.heap.size w w' := by
  go_enter Try.func53, Try.ntmps53
  go_wp2_with fail
  go_ret
  exact ⟨rfl, (Blk.fresh' _ _ _ _ _ rfl rfl).alloc _, Blk.fresh' _ _ _ _ _ rfl (by simp), (Ext.refl w).alloc _ |>.alloc _⟩
theorem grown_set (w : World) (g : Nat) (u : Value) : w.grownBy (w.setCell ⟨g, 0, none⟩ u) (some g) :=
  ⟨rfl, rfl, rfl, by simp [World.setCell], fun k _ hk => Below.heap_setCell _ _ _ _ (fun h => hk (by rw [h]))⟩
theorem grown_drewN {w w' : World} {row : Option Nat} (h : w.grownBy w' row) (n : Nat) : w.grownBy (w'.drewN n) row := ⟨h.os, h.tape, h.output, h.size, h.block⟩
set_option maxHeartbeats 1000000 in
set_option maxRecDepth 100000 in
theorem next_any (l : List Int) (b o n c p pb pa : Nat) (w : World) (hl : Rd w w.heap.size (some ⟨b, o, none⟩) n (u8s l)) (hby : Byt l) (hnc : n ≤ c) (hc : c ≤ 9223372036854775807) (hpn : p ≤ n)
    (hB : Blk w pb 33 [.slice (some ⟨b, o, none⟩) n c]) (hP : Blk w pa 3 [.int .i64 p]) (v u er : Int) (hg : getI (l.drop p) = (v, u, er)) :
    Calls Try.prog 57 #[.pointer (some ⟨pb, 0, none⟩), .pointer (some ⟨pa, 0, none⟩)] w fun e w' => e = .returned (.tuple #[.int .i64 v, .int .i64 ((p : Int) + u), .int .i64 er]) ∧
      Blk w' pa 3 [.int .i64 ((p : Int) + u)] ∧ w.grownBy w' (some pa) := by
  have hlen : l.length = n := by simpa [u8s] using hl.1
  have hub : 0 ≤ u ∧ (p : Int) + u ≤ n := by
    rcases getI_cases (l.drop p) (hby.drop p) with ⟨er', hg', _⟩ | ⟨v', k, hg', _, _, hk, _, _, _⟩
    · rw [hg] at hg'
      simp only [Prod.mk.injEq] at hg'
      obtain ⟨-, rfl, -⟩ := hg'
      omega
    · rw [hg] at hg'
      simp only [Prod.mk.injEq] at hg'
      obtain ⟨-, rfl, -⟩ := hg'
      rw [List.length_drop] at hk
      omega
  obtain ⟨hu0, hu1⟩ := hub
  have HG := Lib.hid hg
  have HRR : Hid (Rd w w.heap.size (some ⟨b, o + p, none⟩) (n - p) (u8s (l.drop p))) := Lib.hid (rd_rest hl p hpn)
  have HR0 : Hid (n - p = 0 → Rd w w.heap.size (some ⟨b, o, none⟩) 0 (u8s (l.drop p))) := Lib.hid (fun h => by
    rw [List.drop_of_length_le (by omega)]; exact Rd.nil _ _ _)
  have cb := hB.one
  have cp := hP.one
  have fp := hP.frozen 0
  have HP := Lib.hid hP
  have hby2 := hby.drop p
  have hc2 : c - p ≤ 9223372036854775807 := by omega
  have hnn : n - p ≤ c - p := by omega
  have hcell := fun u : Value => (HP.out.set 0 u).one
  clear hl hlen hg hB hP
  by_cases hpc : p = c
  · have HR1 := Lib.hid (HR0.out (by omega))
    have hpn2 : n = p := by omega
    clear hnn hc2
    subst hpn2
    have hz1' : (0 : Nat) ≤ 9223372036854775807 := by omega
    have hz2' : (0 : Nat) ≤ 0 := Nat.le_refl _
    subst hpc
    go_enter Try.func57, Try.ntmps57
    go_upto_region 3 with (go_at_call 56; (with_reducible refine (gint_any (l.drop n) _ 0 0 w HR1.out hby2 hz2' hz1').mono ?_); rintro e w1 ⟨rfl, rfl⟩; rw [HG.out]; unfold tup3)
    go_quiet (fail)
    go_wp2_with fail
    go_ret3
    exact ⟨rfl, (HP.out.set 0 _).drewN _, grown_drewN (grown_set w pa _) _⟩
  · go_enter Try.func57, Try.ntmps57
    go_upto_region 3 with (go_at_call 56; (with_reducible refine (gint_any (l.drop p) _ (n - p) (c - p) w HRR.out hby2 hnn hc2).mono ?_); rintro e w1 ⟨rfl, rfl⟩; rw [HG.out]; unfold tup3)
    go_quiet (fail)
    go_wp2_with fail
    go_ret3
    exact ⟨rfl, (HP.out.set 0 _).drewN _, grown_drewN (grown_set w pa _) _⟩
set_option maxHeartbeats 2000000 in
set_option maxRecDepth 100000 in
theorem gints_any (l : List Int) (A0 : Option Addr) (n c : Nat) (w : World) (hl : Rd w w.heap.size A0 n (u8s l)) (hby : Byt l) (hnc : n ≤ c) (hc : c ≤ 9223372036854775807) (hn : n ≤ 1000000000000) :
    Calls Try.prog 46 #[.slice A0 n c] w fun e w' => (∃ A' c', e = .returned (.tuple #[.slice A' (decList getI l).1.length c', .int .i64 (decList getI l).2.1, .int .i64 (decList getI l).2.2]) ∧
      w'.ownsRow w.heap.size 3 1 (.slice A' (decList getI l).1.length c') (decList getI l).1.length ((decList getI l).1.map (Value.int .i64))) ∧ Below w.heap.size w w' := by
  obtain ⟨i0, hi, hz0, hz1, hz2⟩ := info_parts winfo_int
  have hlen : l.length = n := by simpa [u8s] using hl.1
  have HL := Lib.hid hl
  rcases cntI_cases l hby 1 (Nat.le_refl _) with ⟨er, hg, he⟩ | ⟨m, k, hg, h1, h9, hk, hm, henc⟩
  · have HC := Lib.hid hg
    have hne2 : er ≠ 0 := by rcases he with rfl | rfl <;> decide
    have HD : Hid (decList getI l = ([], 0, er)) := Lib.hid (decList_err0 _ l er hg hne2)
    have hne : ((er : Int) == 0) = false := by rcases he with rfl | rfl <;> rfl
    clear hg hl hlen he
    go_enter Try.func46, Try.ntmps46
    go_wp2_with (go_at_call 52; (with_reducible refine (count1_any l _ n _ w HL.out hby hnc hc).mono ?_); rintro e w0 ⟨⟨a, b0, rfl, hab⟩, rfl⟩; rw [HC.out] at hab; rw [HC.out]; clear hab)
    go_ret3
    exact ⟨⟨none, 0, by rw [HD.out]; rfl, by rw [HD.out]; exact World.ownsRow_nil _ _ _ _⟩, Ext.refl w⟩
  · have HC := Lib.hid hg
    obtain ⟨b, o, rfl, hb, _⟩ := hl.2 (by omega)
    have HLEN := Lib.hid hlen
    have hk1 : k + m ≤ n := by omega
    clear hg hl hlen henc hk
    go_enter Try.func46, Try.ntmps46
    go_wp2_with (first
      | (go_at_call 52; (with_reducible refine (count1_any l _ n _ w HL.out hby hnc hc).mono ?_); rintro e w0 ⟨⟨a, b0, rfl, hab⟩, rfl⟩; rw [HC.out] at hab; rw [HC.out]; obtain ⟨rfl, rfl⟩ := hab rfl)
      | (go_at_call 53; (with_reducible refine (reader_any _ n c _ w).mono ?_); rintro e w1 ⟨rfl, hBB, hBP, hB1⟩; have HBB := Lib.hid hBB; have HBP := Lib.hid hBP; have HE1 : Hid (Ext w w1) := Lib.hid hB1; clear hBB hBP hB1))
    have hz1' := Below.size HE1.out
    go_loopw [26, 6, 9] (fun i s6 s8 wr => ∃ (t p : Nat) (xs : List Int) (A : Option Addr) (c' : Nat), t ≤ m ∧ i = .int .i64 t ∧ s6 = .int .i64 p ∧ s8 = .slice A t c' ∧ k ≤ p ∧ p ≤ n ∧ wr.ownsRow (w.heap.size + 2) 3 1 (.slice A t c') t (xs.map (Value.int .i64)) ∧ Hid (xs.length = t) ∧
        Hid (decMany getI m (l.drop k) = joinD xs (p - k) (decMany getI (m - t) (l.drop p))) ∧ Hid (Blk wr w.heap.size 33 [.slice (some ⟨b, o, none⟩) n c]) ∧ Hid (Blk wr (w.heap.size + 1) 3 [.int .i64 p]) ∧ Below w.heap.size w wr)
      (fun i _ _ _ => m - (intOf i).toNat)
    case atStart => exact ⟨0, k, [], none, 0, Nat.zero_le _, rfl, rfl, rfl, Nat.le_refl _, by omega, World.ownsRow_nil _ _ _ _, Lib.hid rfl, Lib.hid (by simp [joinD]), HBB, HBP, HE1.out⟩
    case round =>
      clear HBB HBP
      obtain ⟨t, p, xs, A, c', ht, rfl, rfl, rfl, hkp, hpn, hown, HXL, HJ, HBB, HBP, hB⟩ := hrel
      have hs := hB.size
      have hsz2 := HBP.out.lt
      by_cases hlt : t < m
      · have hby2 : Byt (l.drop p) := hby.drop p
        have HBE : Hid (Ext w wr) := Lib.hid hB
        have HRR : Hid (Rd wr wr.heap.size (some ⟨b, o, none⟩) n (u8s l)) := Lib.hid (HL.out.ext' hB)
        have HJS : Hid (∀ (x : Int) (u : Nat), getI (l.drop p) = (x, (u : Int), 0) → decMany getI m (l.drop k) = joinD (xs ++ [x]) (p + u - k) (decMany getI (m - (t + 1)) (l.drop (p + u)))) := Lib.hid (fun x u h => by
          have e : m - t = (m - (t + 1)) + 1 := by omega
          rw [HJ.out, e, joinD_step getI _ _ xs _ u x h, List.drop_drop]
          congr 1
          omega)
        have HJE : Hid (∀ er : Int, er ≠ 0 → (getI (l.drop p)).2.2 = er → decList getI l = ([], 0, er)) := Lib.hid (fun er he h => by
          have e : m - t = (m - (t + 1)) + 1 := by omega
          refine decList_err1 _ l m k er HC.out he ?_
          rw [HJ.out, e]
          exact joinD_err _ _ _ _ _ er he h)
        rcases getI_cases (l.drop p) hby2 with ⟨er, hg, he⟩ | ⟨x, u, hg, hu1, -, hul, -, -, -⟩
        · have HG := Lib.hid hg
          have hne : ((er : Int) == 0) = false := by rcases he with rfl | rfl <;> rfl
          have hne2 : er ≠ 0 := by rcases he with rfl | rfl <;> decide
          have HD := Lib.hid (HJE.out er hne2 (by rw [hg]))
          clear hg he hown hB
          go_wp2_with (go_at_call 57; (with_reducible refine (next_any l b o n c p _ _ wr HRR.out hby hnc hc hpn HBB.out HBP.out 0 0 er HG.out).mono ?_); rintro e w2 ⟨rfl, hBP2, hg2⟩; have HB2 : Hid (Ext w w2) := Lib.hid (Below.grown HBE.out hg2 hs (fun k hk => (by injection hk with hk; omega))); clear hBP2 hg2)
          go_ret3
          exact ⟨⟨none, 0, by rw [HD.out]; rfl, by rw [HD.out]; exact World.ownsRow_nil _ _ _ _⟩, HB2.out⟩
        · have HG := Lib.hid hg
          have hul2 : p + u ≤ n := by rw [List.length_drop, HLEN.out] at hul; omega
          have HJ2 := Lib.hid (HJS.out x u hg)
          have HXL2 : Hid ((xs ++ [x]).length = t + 1) := Lib.hid (by rw [List.length_append, HXL.out]; rfl)
          have HNE : Hid ((Value.slice A t c').ownBlock = none ∨ (Value.slice A t c').ownBlock ≠ some (w.heap.size + 1)) := Lib.hid (Or.inr (fun h => by have := (hown.lt _ h).1; omega))
          clear hg hul
          go_wp2_with (first
            | (go_at_call 57; (with_reducible refine (next_any l b o n c p _ _ wr HRR.out hby hnc hc hpn HBB.out HBP.out x u 0 HG.out).mono ?_); rintro e w2 ⟨rfl, hBP2, hg2⟩; have HB2 : Hid (Ext w w2) := Lib.hid (Below.grown HBE.out hg2 hs (fun k hk => (by injection hk with hk; omega))); have hownk := hown.kept hg2 HNE.out; have hs3 := hg2.size; have HBB2 := Lib.hid (HBB.out.grown hg2 (fun h => (by injection h with h; omega))); have HBP2 := Lib.hid hBP2; clear hown hBP2 hg2)
            | (at_builtin; refine wpList_app rfl (.tmp 37) (.tmp 39) 23 rfl (w.heap.size + 2) 3 i0 (.int .i64 0) 1 8 Try.underlying23 hi hz0 hz1 hz2 rfl (by omega) A t c' _ rfl (hownk.alloc _) (w2.heap.size + 1) _ 1 1 [.int .i64 x] rfl (RdN.fresh [.int .i64 x] _ _ 1 1 rfl rfl rfl) (by intro u hu; rw [List.mem_singleton] at hu; subst hu; rfl) (by simp only [maxLen]; omega) (by omega) (by simp; omega) ?_; intro A4 c4 w4 hown4 hg4; have hb4 := below_app (Ext.alloc HB2.out _) hg4 (hownk.alloc _) (by omega) (by simp; omega); have HBB4 := Lib.hid ((HBB2.out.alloc (.cells #[.int .i64 x] 3)).grown hg4 (fun h => (by have := ((hownk.alloc (.cells #[.int .i64 x] 3)).lt _ h.symm).1; omega))); have HBP4 := Lib.hid ((HBP2.out.alloc (.cells #[.int .i64 x] 3)).grown hg4 (fun h => (by have := ((hownk.alloc (.cells #[.int .i64 x] 3)).lt _ h.symm).1; omega)))))
          go_roundw
          case rel => exact ⟨t + 1, p + u, xs ++ [x], A4, c4, by omega, by go_num, by go_num, rfl, by omega, by omega, by rw [List.map_append]; exact hown4, HXL2, HJ2, HBB4, HBP4, hb4⟩
          case measure => simp [intOf]; omega
      · obtain rfl : t = m := by omega
        have HD : Hid (decList getI l = (xs, (p : Int), 0)) := Lib.hid (decList_ok _ l t k p xs HC.out (by rw [HJ.out, Nat.sub_self]; rfl) hkp)
        go_wp2_with fail
        go_ret3
        exact ⟨⟨A, c', by rw [HD.out, HXL.out]; rfl, by rw [HD.out, HXL.out]; exact hown.mono (by omega)⟩, hB⟩
end Go.Proofs.Ytkgmoklifkojhaa
