/- The examples of the law package about encodings: its sanity check answers true in every world. No condition. -/
import Derived.Test.YtadepaaemjnfgaaWSanA
namespace Go.Proofs.Ytadepaaemjnfgaa
open Go.RowKit
theorem byt_all {l : List Int} (h : (l.all fun x => decide (0 ≤ x) && decide (x ≤ 255)) = true) : Byt l := fun x hx => by
  have := List.all_eq_true.1 h x hx
  simpa using this
def digX : List Int := [1, 2, 0, 0, 0, 0, 0, 0, 0, 0, 0, 0, 0, 0, 0, 0]
theorem digX_16 : Dig16 [digX] := fun d h => by
  rw [List.mem_singleton] at h
  subst h
  exact ⟨rfl, byt_all rfl⟩
theorem build_dig (W : World) : (Instr.build 57 #[(0, .int .u8 1), (1, .int .u8 2)]).run Try.prog W = .ok (.agg (u8s digX).toArray) W := by kernel_rfl
theorem dig_enc : encL idD [digX] = [129, 1, 1, 2, 0, 0, 0, 0, 0, 0, 0, 0, 0, 0, 0, 0, 0, 0] := by kernel_rfl
theorem dig_dec : decD (encL idD [digX]) = ([digX], 18, 0) := by kernel_rfl
theorem slice_cap {w : World} {base : Nat} {e : TypeId} {size n c : Nat} {A : Option Addr} {xs : List Value} (h : w.ownsRow base e size (.slice A n c) n xs) : n ≤ c ∧ c ≤ maxLen := by
  rcases h.2 with ⟨hv, h0⟩ | ⟨g, cap, cur, hv, hg, hh, h1, h2, _⟩
  · injection hv with _ h1 h2; subst h1 h2; exact ⟨Nat.le_refl _, by decide⟩
  · injection hv with _ _ h3; subst h3; exact ⟨h1, h2⟩
theorem RdN.of_own {w : World} {base : Nat} {e : TypeId} {size n c : Nat} {A : Option Addr} {xs : List Value} (h : w.ownsRow base e size (.slice A n c) n xs) : RdN w w.heap.size size A n xs := by
  refine ⟨by simpa using h.1, fun hn => ?_⟩
  rcases h.2 with ⟨hv, h0⟩ | ⟨g, cap, cur, hv, hg, hh, _⟩
  · omega
  · have hA : A = some ⟨g, 0, none⟩ := by injection hv
    subst hA
    refine ⟨g, 0, rfl, ?_, fun j u hu => ?_⟩
    · exact (h.lt g (by simp [Value.ownBlock])).2
    · have := h.cells (g := g) (by simp [Value.ownBlock]) j u hu
      rw [Nat.zero_add]
      have e : (⟨g, 0, none⟩ : Addr).add j = ⟨g, j, none⟩ := by unfold Addr.add; split <;> simp_all
      rwa [e] at this
theorem RdN.ext {a w : World} {size n : Nat} {A : Option Addr} {xs : List Value} (hb : RdN a a.heap.size size A n xs) (h : Ext a w) : RdN w w.heap.size size A n xs := (hb.below h (Nat.le_refl _)).more h.size
theorem digX_cel : celD [digX] = u8s digX := by simp [celD]
theorem digests_lit (W : World) (o : Obj) (ho : o = .cells (u8s digX).toArray 57) :
    Calls Try.prog 22 #[.slice (some ⟨W.heap.size, 0, none⟩) 1 1] (W.alloc o) fun e w' => (∃ A c, e = .returned (.slice A 18 c) ∧ (18 ≤ c ∧ c ≤ maxLen) ∧ Rd w' w'.heap.size A 18 (u8s (encL idD [digX]))) ∧ Ext W w' := by
  have hl : RdN (W.alloc o) (W.alloc o).heap.size 16 (some ⟨W.heap.size, 0, none⟩) 1 (celD [digX]) := by
    rw [digX_cel]
    subst ho
    exact ⟨rfl, fun _ => ⟨W.heap.size, 0, rfl, by simp, fun j u hu => by rw [(Blk.fresh W _ (u8s digX)).cell, Nat.zero_add]; exact hu⟩⟩
  refine (digests_any [digX] _ 1 1 _ hl digX_16 rfl (by decide)).mono fun e w' h => ?_
  obtain ⟨⟨A, c, h, hown⟩, hB⟩ := h
  have hl18 : (encL idD [digX]).length = 18 := by rw [dig_enc]; rfl
  rw [hl18] at h hown
  exact ⟨⟨A, c, h, slice_cap hown, Rd.of_own hown⟩, ((Ext.refl W).alloc o).next hB⟩
theorem gdig_lit (W : World) (A : Option Addr) (c : Nat) (hc : 18 ≤ c) (hc2 : c ≤ 9223372036854775807) (hl : Rd W W.heap.size A 18 (u8s (encL idD [digX]))) :
    Calls Try.prog 34 #[.slice A 18 c] W fun e w' => (∃ A' c', e = .returned (.tuple #[.slice A' 1 c', .int .i64 18, .int .i64 0]) ∧ RdN w' w'.heap.size 16 A' 1 (celD [digX])) ∧ Ext W w' := by
  refine (gdigests_any (encL idD [digX]) A 18 c W hl (by rw [dig_enc]; exact byt_all rfl) hc hc2 (by decide)).mono fun e w' h => ?_
  obtain ⟨⟨A', c', h, hown⟩, hB⟩ := h
  rw [dig_dec] at h hown
  exact ⟨⟨A', c', h, RdN.of_own hown⟩, hB⟩
theorem sameDig_lit (W : World) (o : Obj) (A : Option Addr) (c : Nat) (hl : RdN W W.heap.size 16 A 1 (celD [digX])) (ho : o = .cells (u8s digX).toArray 57) :
    Calls Try.prog 36 #[.slice A 1 c, .slice (some ⟨W.heap.size, 0, none⟩) 1 1] (W.alloc o) fun e w' => e = .returned (.bool true) ∧ Ext W w' := by
  have hm : RdN (W.alloc o) (W.alloc o).heap.size 16 (some ⟨W.heap.size, 0, none⟩) 1 (celD [digX]) := by
    rw [digX_cel]
    subst ho
    exact ⟨rfl, fun _ => ⟨W.heap.size, 0, rfl, by simp, fun j u hu => by rw [(Blk.fresh W _ (u8s digX)).cell, Nat.zero_add]; exact hu⟩⟩
  refine (sameDigests_any [digX] [digX] A _ 1 c 1 1 _ (hl.ext ((Ext.refl W).alloc o)) hm digX_16 digX_16 rfl rfl (by decide)).mono fun e w' h => ?_
  obtain ⟨he, hd⟩ := h
  exact ⟨by rw [he, decide_eq_true rfl], ((Ext.refl W).alloc o).next (hd.below _)⟩
set_option maxHeartbeats 8000000 in
set_option maxRecDepth 100000 in
theorem wsanity_any (w : World) : Calls Try.prog 12 #[] w fun e w' => e = .returned (.bool true) ∧ Below w.heap.size w w' := by
  have C1 : Hid (∀ W : World, Calls Try.prog 24 #[.slice (some ⟨W.heap.size, 0, none⟩) 4 4] (W.alloc (.cells #[.int .u8 130, .int .u8 1, .int .u8 0, .int .u8 9] 5)) fun e w' => e = .returned (.tuple #[.int .i64 256, .int .i64 3, .int .i64 0]) ∧ Ext W w') := Lib.hid (fun W => gint_lit [130, 1, 0, 9] 4 (256, 3, 0) rfl (by decide) (byt_all rfl) (by kernel_rfl) W _ rfl)
  have C2 : Hid (∀ W : World, Calls Try.prog 24 #[.slice (some ⟨W.heap.size, 0, none⟩) 2 2] (W.alloc (.cells #[.int .u8 130, .int .u8 1] 5)) fun e w' => e = .returned (.tuple #[.int .i64 0, .int .i64 0, .int .i64 3]) ∧ Ext W w') := Lib.hid (fun W => gint_lit [130, 1] 2 (0, 0, 3) rfl (by decide) (byt_all rfl) (by kernel_rfl) W _ rfl)
  have C3 : Hid (∀ W : World, Calls Try.prog 24 #[.slice (some ⟨W.heap.size, 0, none⟩) 2 2] (W.alloc (.cells #[.int .u8 129, .int .u8 0] 5)) fun e w' => e = .returned (.tuple #[.int .i64 0, .int .i64 0, .int .i64 2]) ∧ Ext W w') := Lib.hid (fun W => gint_lit [129, 0] 2 (0, 0, 2) rfl (by decide) (byt_all rfl) (by kernel_rfl) W _ rfl)
  have C4 : Hid (∀ W : World, Calls Try.prog 26 #[.slice (some ⟨W.heap.size, 0, none⟩) 5 5] (W.alloc (.cells #[.int .u8 129, .int .u8 2, .int .u8 97, .int .u8 98, .int .u8 7] 5)) fun e w' => e = .returned (.tuple #[.string ⟨#[97, 98]⟩, .int .i64 4, .int .i64 0]) ∧ Ext W w') := Lib.hid (fun W => gbytes_lit [129, 2, 97, 98, 7] 5 (⟨#[97, 98]⟩, 4, 0) rfl (by decide) (byt_all rfl) (by kernel_rfl) W _ rfl)
  have C5 : Hid (∀ W : World, Calls Try.prog 28 #[.slice (some ⟨W.heap.size, 0, none⟩) 5 5] (W.alloc (.cells #[.int .u8 129, .int .u8 2, .int .u8 129, .int .u8 1, .int .u8 127] 5)) fun e w' => (∃ A c, e = .returned (.tuple #[.slice A 2 c, .int .i64 5, .int .i64 0]) ∧ Rd w' w'.heap.size A 2 (([1, -1] : List Int).map (Value.int .i64))) ∧ Ext W w') := Lib.hid (fun W => gints_lit [129, 2, 129, 1, 127] 5 [1, -1] 5 0 2 rfl (by decide) (byt_all rfl) (by kernel_rfl) rfl W _ rfl)
  have C8 : Hid (∀ W : World, Calls Try.prog 31 #[.slice (some ⟨W.heap.size, 0, none⟩) 7 7] (W.alloc (.cells #[.int .u8 129, .int .u8 2, .int .u8 128, .int .u8 129, .int .u8 1, .int .u8 97, .int .u8 5] 5)) fun e w' => (∃ A c, e = .returned (.tuple #[.slice A 2 c, .int .i64 6, .int .i64 0]) ∧ Rd w' w'.heap.size A 2 (([⟨#[]⟩, ⟨#[97]⟩] : List ByteArray).map Value.string)) ∧ Ext W w') := Lib.hid (fun W => gstrings_lit [129, 2, 128, 129, 1, 97, 5] 7 [⟨#[]⟩, ⟨#[97]⟩] 6 0 2 rfl (by decide) (byt_all rfl) (by kernel_rfl) rfl W _ rfl)
  have C9 : Hid (∀ (W : World) A c, Rd W W.heap.size A 2 (([⟨#[]⟩, ⟨#[97]⟩] : List ByteArray).map Value.string) → Calls Try.prog 33 #[.slice A 2 c, .slice (some ⟨W.heap.size, 0, none⟩) 2 2] (W.alloc (.cells #[.string ⟨#[]⟩, .string ⟨#[97]⟩] 9)) fun e w' => e = .returned (.bool true) ∧ Ext W w') := Lib.hid (fun W A c h => sameTexts_lit [⟨#[]⟩, ⟨#[97]⟩] [⟨#[]⟩, ⟨#[97]⟩] 2 2 rfl (by decide) rfl A c W h _ rfl)
  have C10 : Hid (∀ W : World, Calls Try.prog 20 #[.slice (some ⟨W.heap.size, 0, none⟩) 2 2] (W.alloc (.cells #[.string ⟨#[]⟩, .string ⟨#[97]⟩] 9)) fun e w' => (∃ A c, e = .returned (.slice A 6 c) ∧ Rd w' w'.heap.size A 6 (([129, 2, 128, 129, 1, 97] : List Int).map (Value.int .u8))) ∧ Ext W w') := Lib.hid (fun W => strings_lit [⟨#[]⟩, ⟨#[97]⟩] [129, 2, 128, 129, 1, 97] 2 6 (by kernel_rfl) rfl (by decide) rfl (by decide) (by intro s hs; rcases List.mem_cons.1 hs with rfl | hs; decide; rcases List.mem_cons.1 hs with rfl | hs; decide; cases hs) W _ rfl)
  have C11 : Hid (∀ (W : World) A c, Rd W W.heap.size A 6 (([129, 2, 128, 129, 1, 97] : List Int).map (Value.int .u8)) → Calls Try.prog 13 #[.slice A 6 c, .slice (some ⟨W.heap.size, 0, none⟩) 6 6] (W.alloc (.cells #[.int .u8 129, .int .u8 2, .int .u8 128, .int .u8 129, .int .u8 1, .int .u8 97] 5)) fun e w' => e = .returned (.bool true) ∧ Ext W w') := Lib.hid (fun W A c h => same_lit [129, 2, 128, 129, 1, 97] [129, 2, 128, 129, 1, 97] 6 6 rfl (by decide) rfl A c W h _ rfl)
  have C12 : Hid (∀ W : World, Calls Try.prog 14 #[.int .i64 (-257)] W fun e w' => (∃ A c, e = .returned (.slice A 3 c) ∧ Rd w' w'.heap.size A 3 (([125, 254, 255] : List Int).map (Value.int .u8))) ∧ Ext W w') := Lib.hid (fun W => int_enc (-257) [125, 254, 255] 3 (by kernel_rfl) rfl (by decide) (by decide) W)
  have C13 : Hid (∀ (W : World) A c, Rd W W.heap.size A 3 (([125, 254, 255] : List Int).map (Value.int .u8)) → Calls Try.prog 13 #[.slice A 3 c, .slice (some ⟨W.heap.size, 0, none⟩) 3 3] (W.alloc (.cells #[.int .u8 125, .int .u8 254, .int .u8 255] 5)) fun e w' => e = .returned (.bool true) ∧ Ext W w') := Lib.hid (fun W A c h => same_lit [125, 254, 255] [125, 254, 255] 3 3 rfl (by decide) rfl A c W h _ rfl)
  have C14 : Hid (∀ (W : World) A c, Rd W W.heap.size A 2 (([1, -1] : List Int).map (Value.int .i64)) → Calls Try.prog 30 #[.slice A 2 c, .slice (some ⟨W.heap.size, 0, none⟩) 2 2] (W.alloc (.cells #[.int .i64 1, .int .i64 (-1)] 3)) fun e w' => e = .returned (.bool true) ∧ Ext W w') := Lib.hid (fun W A c h => sameInts_lit [1, -1] [1, -1] 2 2 rfl (by decide) rfl A c W h _ rfl)
  have C15 : Hid (∀ W : World, Calls Try.prog 16 #[.string ⟨#[97, 98]⟩] W fun e w' => (∃ A c, e = .returned (.slice A 4 c) ∧ Rd w' w'.heap.size A 4 (([129, 2, 97, 98] : List Int).map (Value.int .u8))) ∧ Ext W w') := Lib.hid (fun W => bytes_enc ⟨#[97, 98]⟩ [129, 2, 97, 98] 4 (by kernel_rfl) rfl (by decide) W)
  have C16 : Hid (∀ (W : World) A c, Rd W W.heap.size A 4 (([129, 2, 97, 98] : List Int).map (Value.int .u8)) → Calls Try.prog 13 #[.slice A 4 c, .slice (some ⟨W.heap.size, 0, none⟩) 4 4] (W.alloc (.cells #[.int .u8 129, .int .u8 2, .int .u8 97, .int .u8 98] 5)) fun e w' => e = .returned (.bool true) ∧ Ext W w') := Lib.hid (fun W A c h => same_lit [129, 2, 97, 98] [129, 2, 97, 98] 4 4 rfl (by decide) rfl A c W h _ rfl)
  have C17 : Hid (∀ W : World, Calls Try.prog 18 #[.slice (some ⟨W.heap.size, 0, none⟩) 2 2] (W.alloc (.cells #[.int .i64 1, .int .i64 (-1)] 3)) fun e w' => (∃ A c, e = .returned (.slice A 5 c) ∧ Rd w' w'.heap.size A 5 (([129, 2, 129, 1, 127] : List Int).map (Value.int .u8))) ∧ Ext W w') := Lib.hid (fun W => ints_lit [1, -1] [129, 2, 129, 1, 127] 2 5 (by kernel_rfl) rfl (by decide) rfl (by decide) (by intro x hx; simp at hx; omega) W _ rfl)
  have C18 : Hid (∀ (W : World) A c, Rd W W.heap.size A 5 (([129, 2, 129, 1, 127] : List Int).map (Value.int .u8)) → Calls Try.prog 13 #[.slice A 5 c, .slice (some ⟨W.heap.size, 0, none⟩) 5 5] (W.alloc (.cells #[.int .u8 129, .int .u8 2, .int .u8 129, .int .u8 1, .int .u8 127] 5)) fun e w' => e = .returned (.bool true) ∧ Ext W w') := Lib.hid (fun W A c h => same_lit [129, 2, 129, 1, 127] [129, 2, 129, 1, 127] 5 5 rfl (by decide) rfl A c W h _ rfl)
  have HDL : Hid ((u8s digX).length = 16) := Lib.hid rfl
  go_enter Try.func12, Try.ntmps12
  go_upto_region 7 with (first
    | (go_at_call 24; (with_reducible refine (C1.out _).mono ?_); rintro e w1 ⟨rfl, hB⟩; have E1 : Hid (Ext w w1) := Lib.hid hB; clear hB)
    | (go_at_call 24; (with_reducible refine (C2.out _).mono ?_); rintro e w2 ⟨rfl, hB⟩; have E2 : Hid (Ext w w2) := Lib.hid (E1.out.next hB); clear hB)
    | (go_at_call 24; (with_reducible refine (C3.out _).mono ?_); rintro e w3 ⟨rfl, hB⟩; have E3 : Hid (Ext w w3) := Lib.hid (E2.out.next hB); clear hB)
    | (go_at_call 26; (with_reducible refine (C4.out _).mono ?_); rintro e w4 ⟨rfl, hB⟩; have E4 : Hid (Ext w w4) := Lib.hid (E3.out.next hB); clear hB)
    | (go_at_call 28; (with_reducible refine (C5.out _).mono ?_); rintro e w5 ⟨⟨A5, c5, rfl, hR⟩, hB⟩; have E5 : Hid (Ext w w5) := Lib.hid (E4.out.next hB); have R5 := Lib.hid hR; clear hB hR)
    | ((refine wpList_store_fresh rfl 57 (.tmp 16) (.tmp 54) rfl _ w5.heap.size rfl (u8s (List.replicate 16 0)) (u8s digX) 57 (by rfl) (by rfl) rfl (winfo_dig.trans (congrArg some HDL.out.symm)) rfl (u8s_one digX) ?_); intro w6 hw6 hE6 hz6; have E6 : Hid (Ext w w6) := Lib.hid (E5.out.next hE6); have R6 := Lib.hid (R5.out.ext' hE6); have W6 := Lib.hid hw6; clear hw6 hE6 hz6))
  have C6 : Hid (∀ (W : World) (o : Obj), o = .cells (u8s digX).toArray 57 → Calls Try.prog 22 #[.slice (some ⟨W.heap.size, 0, none⟩) 1 1] (W.alloc o) fun e w' => (∃ A c, e = .returned (.slice A 18 c) ∧ (18 ≤ c ∧ c ≤ maxLen) ∧ Rd w' w'.heap.size A 18 (u8s (encL idD [digX]))) ∧ Ext W w') := Lib.hid (fun W o h => digests_lit W o h)
  have C20 : Hid (∀ (W : World) (o : Obj) (A : Option Addr) (c : Nat), RdN W W.heap.size 16 A 1 (celD [digX]) → o = .cells (u8s digX).toArray 57 → Calls Try.prog 36 #[.slice A 1 c, .slice (some ⟨W.heap.size, 0, none⟩) 1 1] (W.alloc o) fun e w' => e = .returned (.bool true) ∧ Ext W w') := Lib.hid (fun W o A c h ho => sameDig_lit W o A c h ho)
  obtain ⟨D, hD⟩ : ∃ D, D = u8s digX := ⟨_, rfl⟩
  rw [← hD] at C6 C20 W6 HDL
  have hl16 := HDL.out
  clear hD
  go_upto_region 9 with (first
    | (refine wpList_load_blk rfl 57 (.tmp 16) rfl w5.heap.size (by rfl) W6.out Try.underlying57 rfl (winfo_dig.trans (congrArg some HDL.out.symm)) ?_)
    | (go_at_call 22; (refine (C6.out _ _ (by rw [fold_set]; exact HDL.out)).mono ?_); rintro e w7 ⟨⟨A7, c7, rfl, hcap, hR⟩, hB⟩; have E7 : Hid (Ext w w7) := Lib.hid (E6.out.next hB); have F7 : Hid (Ext w6 w7) := Lib.hid ((Ext.refl w6).next hB); have R7 := Lib.hid hR; have HCAP := Lib.hid hcap; clear hB hR hcap)
    | (go_at_call 34; (refine (gdig_lit w7 A7 c7 HCAP.out.1 (by have := HCAP.out.2; unfold maxLen at this; omega) R7.out).mono ?_); rintro e w8 ⟨⟨A8, c8, rfl, hR⟩, hB⟩; have E8 : Hid (Ext w w8) := Lib.hid (E7.out.next hB); have F8 : Hid (Ext w6 w8) := Lib.hid (F7.out.next hB); have R8 := Lib.hid hR; clear hB hR)
    | (go_at_call 31; (with_reducible refine (C8.out _).mono ?_); rintro e w9 ⟨⟨A9, c9, rfl, hR⟩, hB⟩; have E9 : Hid (Ext w w9) := Lib.hid (E8.out.next hB); have F9 : Hid (Ext w6 w9) := Lib.hid (F8.out.next hB); have G9 : Hid (Ext w8 w9) := Lib.hid hB; have R9 := Lib.hid hR; clear hB hR))
  go_wp2_with (first
    | (go_at_call 33; (with_reducible refine (C9.out w9 A9 c9 R9.out).mono ?_); rintro e w10 ⟨rfl, hB⟩; have E10 : Hid (Ext w9 w10) := Lib.hid hB; clear hB)
    | (go_at_call 20; (with_reducible refine (C10.out w10).mono ?_); rintro e w11 ⟨⟨A11, c11, rfl, hR⟩, hB⟩; have E11 : Hid (Ext w9 w11) := Lib.hid (E10.out.next hB); have R11 := Lib.hid hR; clear hB hR)
    | (go_at_call 13; (with_reducible refine (C11.out w11 A11 c11 R11.out).mono ?_); rintro e w12 ⟨rfl, hB⟩; have E12 : Hid (Ext w9 w12) := Lib.hid (E11.out.next hB); clear hB)
    | (go_at_call 14; (with_reducible refine (C12.out w12).mono ?_); rintro e w13 ⟨⟨A13, c13, rfl, hR⟩, hB⟩; have E13 : Hid (Ext w9 w13) := Lib.hid (E12.out.next hB); have R13 := Lib.hid hR; clear hB hR)
    | (go_at_call 13; (with_reducible refine (C13.out w13 A13 c13 R13.out).mono ?_); rintro e w14 ⟨rfl, hB⟩; have E14 : Hid (Ext w9 w14) := Lib.hid (E13.out.next hB); have R14 := Lib.hid (R6.out.ext' (Ext.next F9.out E14.out)); clear hB)
    | (go_at_call 30; (with_reducible refine (C14.out w14 A5 c5 R14.out).mono ?_); rintro e w15 ⟨rfl, hB⟩; have E15 : Hid (Ext w9 w15) := Lib.hid (E14.out.next hB); clear hB)
    | (go_at_call 16; (with_reducible refine (C15.out w15).mono ?_); rintro e w16 ⟨⟨A16, c16, rfl, hR⟩, hB⟩; have E16 : Hid (Ext w9 w16) := Lib.hid (E15.out.next hB); have R16 := Lib.hid hR; clear hB hR)
    | (go_at_call 13; (with_reducible refine (C16.out w16 A16 c16 R16.out).mono ?_); rintro e w17 ⟨rfl, hB⟩; have E17 : Hid (Ext w9 w17) := Lib.hid (E16.out.next hB); clear hB)
    | (go_at_call 18; (with_reducible refine (C17.out w17).mono ?_); rintro e w18 ⟨⟨A18, c18, rfl, hR⟩, hB⟩; have E18 : Hid (Ext w9 w18) := Lib.hid (E17.out.next hB); have R18 := Lib.hid hR; clear hB hR)
    | (go_at_call 13; (with_reducible refine (C18.out w18 A18 c18 R18.out).mono ?_); rintro e w19 ⟨rfl, hB⟩; have E19 : Hid (Ext w9 w19) := Lib.hid (E18.out.next hB); have R19 := Lib.hid (R8.out.ext (Ext.next G9.out E19.out)); have W19 := Lib.hid (W6.out.ext (Ext.next F9.out E19.out)); clear hB)
    | (refine wpList_load_want (by rfl) 57 (.tmp 16) (by rfl) w5.heap.size (by rfl) W19.out Try.underlying57 rfl (winfo_dig.trans (congrArg some HDL.out.symm)) ?_)
    | (go_at_call 36; (refine (C20.out _ _ _ _ R19.out (by rw [fold_set]; exact HDL.out)).mono ?_); rintro e w20 ⟨rfl, hB⟩; have E20 : Hid (Ext w w20) := Lib.hid ((E9.out.next E19.out).next hB); clear hB))
  go_ret
  exact ⟨rfl, E20.out⟩
end Go.Proofs.Ytadepaaemjnfgaa
