/- The reference's SameLists, of equal lists. Conditions: sizes that fit the memory. -/
import Derived.Test.YtkgmoklifkojhaaLkSep
set_option linter.unusedSimpArgs false
set_option linter.unusedVariables false
namespace Go.Proofs.Ytkgmoklifkojhaa
open Go.RowKit
/-- A slice of byte slices, to be read. -/
def LLs (w : World) (A : Option Addr) (n : Nat) (ls : List (List Int)) : Prop :=
  ls.length = n ∧ ∀ j, j < n → ∃ g, A = some ⟨g, 0, none⟩ ∧ g < w.heap.size ∧ (ls.getD j []).length ≤ 9223372036854775807 ∧ ∃ B c, w.cell? ⟨g, j, none⟩ = some (.slice B (ls.getD j []).length c) ∧ Rd w w.heap.size B (ls.getD j []).length (u8s (ls.getD j []))
theorem LLs.of_packs {L Mu : Nat → Prop} {w : World} {A : Option Addr} {n : Nat} {ls : List (List Int)} (h : Packs L Mu w A n ls) (hn : ls.length = n) : LLs w A n ls :=
  ⟨hn, fun j hj => by
    obtain ⟨g, h1, _, _, h2, h3⟩ := h (by omega)
    obtain ⟨v, h4, G, c, h5, h6, h7, _, _, _, h8⟩ := h3 j hj
    exact ⟨g, h1, h2, by omega, _, c, by rw [h4, h5], h8⟩⟩
theorem LLs.of_mess {L Mu : Nat → Prop} {w : World} {A : Option Addr} {n : Nat} {ls : List (List Int)} (h : Mess L Mu w A n ls) (hn : ls.length = n) : LLs w A n ls :=
  ⟨hn, fun j hj => by
    obtain ⟨g, h1, _, _, h2, h3⟩ := h (by omega)
    obtain ⟨B, c, h5, h6, h7, h8⟩ := h3 j hj
    exact ⟨g, h1, h2, by omega, B, c, h5, h8.rd⟩⟩
set_option maxHeartbeats 4000000 in
set_option maxRecDepth 100000 in
theorem sameLists_any (ls : List (List Int)) (A B : Option Addr) (n c d : Nat) (w : World) (hA : LLs w A n ls) (hB : LLs w B n ls) (hnc : n ≤ c) (hc : c ≤ 9223372036854775807) (hnd : n ≤ d) (hd : d ≤ 9223372036854775807) :
    Calls Try.prog 15 #[.slice A n c, .slice B n d] w fun e w' => e = .returned (.bool true) ∧ Ext w w' := by
  have HA := Lib.hid hA; have HB := Lib.hid hB
  clear hA hB
  go_enter Try.func15, Try.ntmps15
  go_wp2_with fail
  go_loopw [5] (fun i wr => ∃ k : Nat, k ≤ n ∧ i = .int .i64 k ∧ Ext w wr) (fun i _ => n - (intOf i).toNat)
  case atStart => exact ⟨0, Nat.zero_le _, rfl, Ext.refl w⟩
  case round =>
    obtain ⟨k, hk, rfl, hE⟩ := hrel
    have HEr := Lib.hid hE
    clear hE
    obtain ⟨wo, rfl⟩ : ∃ x : World, x = wr := ⟨_, rfl⟩
    by_cases hlt : k < n
    · obtain ⟨ga, hga, hgal, hll, BA, ca, hca, hra⟩ := HA.out.2 k hlt
      obtain ⟨gb, hgb, hgbl, _, BB, cb, hcb, hrb⟩ := HB.out.2 k hlt
      subst hga
      subst hgb
      obtain ⟨l, hl⟩ : ∃ l, l = ls.getD k [] := ⟨_, rfl⟩
      rw [← hl] at hca hra hcb hrb hll
      obtain ⟨m, hm⟩ : ∃ m, m = l.length := ⟨_, rfl⟩
      rw [← hm] at hca hra hcb hrb hll
      have HCA : Hid (∀ W, Ext wo W → W.cell? ⟨ga, k, none⟩ = some (.slice BA m ca)) := Lib.hid (fun W h => ((HEr.out.next h).cell (p := ⟨ga, k, none⟩) hgal).trans hca)
      have HCB : Hid (∀ W, Ext wo W → W.cell? ⟨gb, k, none⟩ = some (.slice BB m cb)) := Lib.hid (fun W h => ((HEr.out.next h).cell (p := ⟨gb, k, none⟩) hgbl).trans hcb)
      have HSM : Hid (∀ W, Ext wo W → Calls Try.prog 29 #[.slice BA m ca, .slice BB m cb] W fun e w' => e = .returned (.bool true) ∧ Drew W w') := Lib.hid (fun W h => (same_any l l BA BB m ca m cb W (hra.ext' (HEr.out.next h)) (hrb.ext' (HEr.out.next h)) (by omega)).mono fun e w' ⟨h1, h2⟩ => ⟨by rw [h1, decide_eq_true rfl], h2⟩)
      clear hca hra hcb hrb hl hm
      go_upto_region 6 with fail
      refine wp_region_flowF 10 ?F6 (fun us => ?_) (by kernel_rfl) (by kernel_rfl) (fun a b => Ext a b) Ext.refl (fun h1 h2 => h1.next h2) (fun i v W => match i with
        | 0 => v = .slice (some ⟨ga, 0, none⟩) n c
        | 1 => v = .int .i64 k
        | 2 => v = .pointer (some ⟨ga, k, none⟩)
        | 3 => v = .slice BA m ca
        | 4 => v = .slice (some ⟨gb, 0, none⟩) n d
        | 5 => v = .int .i64 k
        | 6 => v = .pointer (some ⟨gb, k, none⟩)
        | 7 => v = .slice BB m cb
        | 8 => v = .bool true
        | 9 => v = .bool false
        | _ => True) ?_ ?_
      case refine_1 =>
        simp only [List.take_succ_cons, List.take_zero, flowAct, Nat.zero_add, Nat.reduceAdd, Act.put, List.setIfInBounds_toArray, List.set_cons_succ, List.set_cons_zero]
        rfl
      · simp only [List.take_succ_cons, List.take_zero, flowStepsF]
        refine ⟨?_, ?_, ?_, ?_, ?_, ?_, ?_, ?_, ?_, ?_, trivial⟩
        · intro us W K hE hd hK
          dsimp only at hK ⊢
          have HK := Lib.hid hK; have HE := Lib.hid hE
          clear hK hd hE
          go_wp2_with fail
          exact K_at (HK.out (.slice (some ⟨ga, 0, none⟩) n c) W (fun _ _ => rfl) (Ext.refl W)) (by kernel_rfl)
        · intro us W K hE hd hK
          dsimp only at hK ⊢
          have HK := Lib.hid hK; have HE := Lib.hid hE
          clear hK hd hE
          go_wp2_with fail
          exact K_at (HK.out (.int .i64 k) W (fun _ _ => rfl) (Ext.refl W)) (by kernel_rfl)
        · intro us W K hE hd hK
          have d0 := hd 0 (by kernel_rfl)
          have d1 := hd 1 (by kernel_rfl)
          dsimp only at hK ⊢
          rw [d0, d1] at hK ⊢
          have HK := Lib.hid hK; have HE := Lib.hid hE
          clear hK hd hE d0 d1
          go_wp2_with fail
          exact K_at (HK.out (.pointer (some ⟨ga, k, none⟩)) W (fun _ _ => rfl) (Ext.refl W)) (by kernel_rfl)
        · intro us W K hE hd hK
          have d2 := hd 2 (by kernel_rfl)
          have c0 := HCA.out W (ext_undrew hE)
          dsimp only at hK ⊢
          rw [d2] at hK ⊢
          have HK := Lib.hid hK; have HE := Lib.hid hE
          clear hK hd hE d2
          go_wp2_with fail
          exact K_at (HK.out (.slice BA m ca) W (fun _ _ => rfl) (Ext.refl W)) (by kernel_rfl)
        · intro us W K hE hd hK
          dsimp only at hK ⊢
          have HK := Lib.hid hK; have HE := Lib.hid hE
          clear hK hd hE
          go_wp2_with fail
          exact K_at (HK.out (.slice (some ⟨gb, 0, none⟩) n d) W (fun _ _ => rfl) (Ext.refl W)) (by kernel_rfl)
        · intro us W K hE hd hK
          dsimp only at hK ⊢
          have HK := Lib.hid hK; have HE := Lib.hid hE
          clear hK hd hE
          go_wp2_with fail
          exact K_at (HK.out (.int .i64 k) W (fun _ _ => rfl) (Ext.refl W)) (by kernel_rfl)
        · intro us W K hE hd hK
          have d4 := hd 4 (by kernel_rfl)
          have d5 := hd 5 (by kernel_rfl)
          dsimp only at hK ⊢
          rw [d4, d5] at hK ⊢
          have HK := Lib.hid hK; have HE := Lib.hid hE
          clear hK hd hE d4 d5
          go_wp2_with fail
          exact K_at (HK.out (.pointer (some ⟨gb, k, none⟩)) W (fun _ _ => rfl) (Ext.refl W)) (by kernel_rfl)
        · intro us W K hE hd hK
          have d6 := hd 6 (by kernel_rfl)
          have c0 := HCB.out W (ext_undrew hE)
          dsimp only at hK ⊢
          rw [d6] at hK ⊢
          have HK := Lib.hid hK; have HE := Lib.hid hE
          clear hK hd hE d6
          go_wp2_with fail
          exact K_at (HK.out (.slice BB m cb) W (fun _ _ => rfl) (Ext.refl W)) (by kernel_rfl)
        · intro us W K hE hd hK
          have d3 := hd 3 (by kernel_rfl)
          have d7 := hd 7 (by kernel_rfl)
          dsimp only at hK ⊢
          rw [d3, d7] at hK ⊢
          have HK := Lib.hid hK; have HE := Lib.hid hE
          clear hK hd hE d3 d7
          go_wp2_with (go_loud (go_at_call 29; (with_reducible refine (HSM.out W (ext_undrew HE.out)).mono ?_); rintro e W2 ⟨rfl, hd⟩; have E2 := Lib.hid hd; clear hd))
          exact K_at (HK.out (.bool true) W2 (fun _ _ => rfl) (ext_drew E2.out)) (by kernel_rfl)
        · intro us W K hE hd hK
          have d8 := hd 8 (by kernel_rfl)
          dsimp only at hK ⊢
          rw [d8] at hK ⊢
          have HK := Lib.hid hK; have HE := Lib.hid hE
          clear hK hd hE d8
          go_wp2_with fail
          exact K_at (HK.out (.bool false) W (fun _ _ => rfl) (Ext.refl W)) (by kernel_rfl)
      · intro us W hE hd
        try dsimp only
        have d9 := hd 9 (by decide)
        simp only [List.drop_succ_cons, List.drop_zero]
        rw [d9]
        have E2 : Hid (Ext w W) := Lib.hid (HEr.out.next (ext_undrew hE))
        clear hd hE d9
        go_wp2_with fail
        go_roundw
        case rel => exact ⟨k + 1, by omega, by go_num, E2.out⟩
        case measure => simp [intOf]; omega
    · obtain rfl : k = n := by omega
      go_wp2_with fail
      go_ret
      exact ⟨rfl, HEr.out⟩
end Go.Proofs.Ytkgmoklifkojhaa
