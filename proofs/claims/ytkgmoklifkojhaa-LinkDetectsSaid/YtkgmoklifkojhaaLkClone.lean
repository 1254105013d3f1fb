/- slices.Clone at byte slices; link.Seal, link.Open. Conditions: sizes that fit the memory. -/
import Derived.Test.YtkgmoklifkojhaaLkConcat
namespace Go.Proofs.Ytkgmoklifkojhaa
open Go.RowKit
set_option maxHeartbeats 1000000 in
set_option maxRecDepth 100000 in
theorem clone_any (l : List Int) (A : Option Addr) (n c : Nat) (w : World) (hl : Rd w w.heap.size A n (u8s l)) (hn : n ≤ 100000000000) :
    Calls Try.prog 32 #[.slice A n c] w fun e w' => (∃ A' c', e = .returned (.slice A' n c') ∧ w'.ownsRow w.heap.size 5 1 (.slice A' n c') n (u8s l)) ∧ Below w.heap.size w w' := by
  obtain ⟨i0, hi, hz0, hz1, hz2⟩ := info_parts winfo_u8
  have HL := Lib.hid hl
  clear hl
  have hq : ∀ a n c w, (binOp .eql 33 (.slice a n c) (.slice none 0 0)).run Try.prog w = .ok (.bool a.isNone) w := fun a n c w => Lib.run_eql_slice_nil w _ _ a n c 0 0 Try.underlying33
  rcases A with _ | a
  · have hn0 : n = 0 := by
      rcases Nat.eq_zero_or_pos n with h | h
      · exact h
      · obtain ⟨b, o, h2, _⟩ := HL.out.2 h
        cases h2
    subst hn0
    have hl0 : u8s l = [] := List.eq_nil_of_length_eq_zero HL.out.1
    rw [hl0]
    go_enter Try.func32, Try.ntmps32
    go_wp2_with fail
    go_ret
    exact ⟨⟨none, 0, rfl, World.ownsRow_nil _ _ _ _⟩, Below.refl _ _⟩
  · go_enter Try.func32, Try.ntmps32
    go_wp2_with (at_builtin; refine wpList_app rfl (.tmp 5) (.tmp 6) 33 rfl w.heap.size 5 i0 (.int .u8 0) 1 1 Try.underlying33 hi hz0 hz1 hz2 rfl (by omega) (some ⟨w.heap.size, 0, none⟩) 0 0 [] rfl (own_lit w _ w.heap.size 5 [] _ 0 rfl rfl (Nat.le_refl _) rfl (by decide)) w.heap.size (some a) n c (u8s l) rfl (RdN.of_Rd (HL.out.below ((Ext.refl w).alloc _))) (u8s_one l) (by simp only [maxLen]; omega) (by omega) (by simp) ?_; rw [Nat.zero_add, List.nil_append]; intro A4 c4 w4 hown4 hg4; have hb4 := below_app ((Ext.refl w).alloc (.cells #[] 5)) hg4 (own_lit w _ w.heap.size 5 [] _ 0 rfl rfl (Nat.le_refl _) rfl (by decide)) (Nat.le_refl _) (by simp))
    go_ret
    exact ⟨⟨A4, c4, rfl, hown4⟩, hb4⟩
theorem own_mono {w : World} {b b' : Nat} {e : TypeId} {size : Nat} {v : Value} {n : Nat} {xs : List Value} (h : w.ownsRow b e size v n xs) (hb : b' ≤ b) : w.ownsRow b' e size v n xs :=
  ⟨h.1, h.2.imp id (fun ⟨g, cap, cur, h1, h2, h3⟩ => ⟨g, cap, cur, h1, Nat.le_trans hb h2, h3⟩)⟩
/-- Two slices, one behind the other. -/
theorem concat2_any (l q : List Int) (A : Option Addr) (n c : Nat) (B : Option Addr) (m d : Nat) (W : World) (hl : Rd W W.heap.size A n (u8s l)) (hq : Rd W W.heap.size B m (u8s q)) (hlen : (l ++ q).length ≤ 100000000000) :
    Calls Try.prog 42 #[.slice (some ⟨W.heap.size, 0, none⟩) 2 2] (W.alloc (.cells #[.slice A n c, .slice B m d] 33)) fun e w' => (∃ A' c', e = .returned (.slice A' (l ++ q).length c') ∧ w'.ownsRow W.heap.size 5 1 (.slice A' (l ++ q).length c') (l ++ q).length (u8s (l ++ q))) ∧ Below W.heap.size W w' := by
  have hb := Blk.fresh W 33 [.slice A n c, .slice B m d]
  have hE : Ext W (W.alloc (.cells #[.slice A n c, .slice B m d] 33)) := (Ext.refl W).alloc _
  have hnl : l.length = n := by simpa [u8s] using hl.1
  have hnq : q.length = m := by simpa [u8s] using hq.1
  have hf : [l, q].flatten = l ++ q := by simp
  have h := concat_any [l, q] W.heap.size 0 2 2 (W.alloc (.cells #[.slice A n c, .slice B m d] 33)) (fun j hj => by
    rcases j with _ | _ | j
    · exact ⟨A, c, by have := hb.cell 0; simp only [List.getElem?_cons_zero] at this; rw [show ([l, q].getD 0 []).length = n from hnl]; exact this, by rw [show ([l, q].getD 0 []) = l from rfl, hnl]; exact hl.ext' hE⟩
    · exact ⟨B, d, by have := hb.cell 1; simp only [List.getElem?_cons_succ, List.getElem?_cons_zero] at this; rw [show ([l, q].getD 1 []).length = m from hnq]; exact this, by rw [show ([l, q].getD 1 []) = q from rfl, hnq]; exact hq.ext' hE⟩
    · exact absurd hj (by simp)) hb.lt rfl (by decide) (by rw [hf]; exact hlen)
  rw [hf] at h
  exact h.mono fun e w' ⟨⟨A', c', h1, h2⟩, h3⟩ => ⟨⟨A', c', h1, own_mono h2 (by simp)⟩, hE.next h3⟩
/-- The sealed bytes. -/
def sealL (key : Int) (l : List Int) : List Int := l ++ sealB key l
theorem sealL_length (key : Int) (l : List Int) : (sealL key l).length = l.length + 8 := by simp [sealL, sealB_length]
set_option maxHeartbeats 1000000 in
set_option maxRecDepth 100000 in
theorem lseal_any (key : Int) (k0 : 0 ≤ key) (k1 : key ≤ 18446744073709551615) (l : List Int) (A : Option Addr) (n c : Nat) (w : World) (hl : Rd w w.heap.size A n (u8s l)) (hby : Byt l) (hn : n ≤ 10000000000) :
    Calls Try.prog 24 #[.int .u64 key, .slice A n c] w fun e w' => (∃ A' c', e = .returned (.slice A' (sealL key l).length c') ∧ w'.ownsRow w.heap.size 5 1 (.slice A' (sealL key l).length c') (sealL key l).length (u8s (sealL key l))) ∧ Below w.heap.size w w' := by
  have hlen : l.length = n := by simpa [u8s] using hl.1
  have HL := Lib.hid hl; have HN := Lib.hid hlen; have HBY := Lib.hid hby
  clear hl hby hlen
  obtain ⟨S, hS⟩ : ∃ S, S = sealB key l := ⟨_, rfl⟩
  have HSE : Hid (sealB key l = S) := Lib.hid hS.symm
  have HSL : Hid ((u8s S).length = 8) := Lib.hid (by rw [hS, u8s_length, sealB_length])
  clear hS
  obtain ⟨Z, hZ⟩ : ∃ Z, Z = u8s (List.replicate 8 0) := ⟨_, rfl⟩
  have hzr : ∀ W, (zeroValue 79).run Try.prog W = .ok (.agg Z.toArray) W := by rw [hZ]; exact fun W => by kernel_rfl
  have HZL : Hid (Z.length = 8) := Lib.hid (by rw [hZ]; rfl)
  clear hZ
  go_enter Try.func24, Try.ntmps24
  go_upto_region 2 with (first
    | (go_at_call 41; (with_reducible refine (seal_any key k0 k1 l A n c w HL.out HBY.out (by omega)).mono ?_); rintro e w1 ⟨rfl, hB⟩; rw [HSE.out]; have E1 : Hid (Ext w w1) := Lib.hid hB; clear hB)
    | ((refine wpList_store_fresh rfl 79 (.tmp 5) (.tmp 8) rfl _ w1.heap.size rfl Z (u8s S) 79 (by rfl) (by rfl) rfl (info_8u8.trans (congrArg some HSL.out.symm)) (HZL.out.trans HSL.out.symm) (u8s_one S) ?_); intro w2 hw hE hz; have E2 : Hid (Ext w w2) := Lib.hid (E1.out.next hE); have D5 := Lib.hid hw; obtain ⟨p5, hp5⟩ : ∃ p, p = w1.heap.size := ⟨_, rfl⟩; rw [← hp5] at D5 ⊢; clear hp5 hw hE hz))
  have HB8 : Hid (Rd w2 w2.heap.size (some ⟨p5, 0, none⟩) 8 (u8s S)) := Lib.hid (D5.out.rd HSL.out)
  have HLC : Hid (l ++ S = sealL key l) := Lib.hid (by rw [← HSE.out]; rfl)
  have hlen : (l ++ S).length ≤ 100000000000 := by rw [HLC.out, sealL_length, HN.out]; omega
  go_wp2_with (go_at_call 42; (with_reducible refine (concat2_any l S A n c (some ⟨p5, 0, none⟩) 8 8 w2 (HL.out.ext' E2.out) HB8.out hlen).mono ?_); rintro e w3 ⟨⟨A3, c3, rfl, ho⟩, hB⟩; rw [HLC.out] at ho ⊢; have HO := Lib.hid ho; have E3 : Hid (Ext w w3) := Lib.hid (E2.out.next hB); clear ho hB)
  go_ret
  exact ⟨⟨A3, c3, rfl, own_mono HO.out E2.out.size⟩, E3.out⟩
end Go.Proofs.Ytkgmoklifkojhaa
