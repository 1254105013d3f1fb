/- LinkRuns: for all windows, keys and lists of numbers the law answers true. Conditions: none beyond the row's own. -/
import Derived.Test.YtkgmoklifkojhaaLkRunG
import Derived.Test.YtkgmoklifkojhaaFlowV
import Derived.Test.YtkgmoklifkojhaaFlowW
import Derived.Deep.DeepCutAuto
import Derived.Deep.CutBlock
set_option linter.unusedSimpArgs false
set_option linter.unusedVariables false
namespace Go.Proofs.Ytkgmoklifkojhaa
open Go.RowKit Go.WideShapes Go.ChangeShapes
theorem run_rel {w0 : World} {P Q : Nat → Nat} {ge gm : Nat} {win : Nat → Int} {key : Int} {m : Nat} {a b c d : Value} {w : World} (h1 : a = c) (h2 : b = d) (h : RunSt w0 P Q ge gm win key m a b w) : RunSt w0 P Q ge gm win key m c d w := by
  rw [← h1, ← h2]; exact h
theorem pkv_rd {L Mu : Nat → Prop} {w : World} {g n c : Nat} {l : List Int} (h : PkV L Mu w (.slice (some ⟨g, 0, none⟩) n c) l) : Rd w w.heap.size (some ⟨g, 0, none⟩) n (u8s l) := by
  obtain ⟨G, c', h1, _, _, _, _, _, h6⟩ := h
  injection h1 with h1 h2 h3
  rw [h1, h2]; exact h6
section
variable {w0 w : World} {P Q : Nat → Nat} {ge gm : Nat} {win : Nat → Int} {key : Int} {E : Nat → EndS} {R : Nat → RefS} {V : Nat → Value} {X : Nat → List Value} {J : LawI} {pk : List (List Int)} {tos : List Nat} {m : Nat}
theorem rs_cels (S : Sep w0 7 (RunO P Q E R V X J) w) (hJ : ∀ Mu, J (fun _ => True) Mu w → RunJ P Q ge gm X pk (fun _ => True) Mu w) {k : Nat} (hk : k < 2) : w.cell? ⟨ge, k, none⟩ = some (.pointer (some ⟨P k, 0, none⟩)) ∧ w.cell? ⟨gm, k, none⟩ = some (.pointer (some ⟨Q k, 0, none⟩)) := by
  obtain ⟨Mu, h, _⟩ := rs_facts S
  have h2 := hJ Mu h
  exact ⟨h2.1.2.2.2 k _ (ptrC_at P hk), h2.2.1.2.2.2 k _ (ptrC_at Q hk)⟩
theorem runr_upd {E' : EndS} {R' : RefS} {k : Nat} (h : ∀ j, j < 2 → RunR (win j) key (E j) (R j) m) (h2 : RunR (win k) key E' R' (m + 1)) : ∀ j, j < 2 → RunR (win j) key (updE E k E' j) (updE R k R' j) (m + 1) := fun j hj => by
  by_cases hjk : j = k
  · subst hjk; rw [updE_same, updE_same]; exact h2
  · rw [updE_ne _ _ hjk, updE_ne _ _ hjk]; exact (h j hj).late (by omega)
theorem run_sent (HR : ∀ k, k < 2 → RunR (win k) key (E k) (R k) m) (HPK : (∀ j, j < pk.length → Byt (pk.getD j []) ∧ 12 ≤ (pk.getD j []).length ∧ (pk.getD j []).length ≤ 100) ∧ pk.length ≤ 16 * m ∧ tos.length = pk.length ∧ ∀ t ∈ tos, t < 2) (HX : X 1 = tos.map (fun t : Nat => Value.int .i64 (t : Int))) {k : Nat} (hk : k < 2) {msg : List Int} {v : Value} (hm : Byt msg ∧ msg.length = 2)
    (S : Sep w0 7 (RunO P Q (updE E k (sendE (E k) msg)) (updE R k (sendR (R k) msg)) V X (fun L Mu w => RunJ P Q ge gm X pk L Mu w ∧ PkV L Mu w v msg)) w) : RunSt w0 P Q ge gm win key (m + 1) (V 0) (V 1) w :=
  ⟨_, _, pk, tos, V, X, rfl, rfl, runr_upd HR ((HR k hk).send hm), ⟨HPK.1, by have := HPK.2.1; omega, HPK.2.2⟩, HX, rs_imp S (RunJ.stab _ _ _ _ _ _) (fun Mu h => h.1)⟩
end
section
variable {w0 w : World} {P Q : Nat → Nat} {ge gm : Nat} {win : Nat → Int} {key : Int} {E : Nat → EndS} {R : Nat → RefS} {V : Nat → Value} {X : Nat → List Value} {J : LawI} {pk : List (List Int)} {tos : List Nat} {m : Nat}
theorem packs_one {L Mu : Nat → Prop} {w : World} {g n j : Nat} {ls : List (List Int)} {v : Value} (h : Packs L Mu w (some ⟨g, 0, none⟩) n ls) (hj : j < n) (hc : w.cell? ⟨g, j, none⟩ = some v) : PkV L Mu w v (ls.getD j []) := by
  obtain ⟨g', h1, _, _, _, h2⟩ := h (by omega)
  injection h1 with h1
  injection h1 with h1 _
  subst h1
  obtain ⟨v', h3, h4⟩ := h2 j hj
  rw [hc] at h3
  injection h3 with h3
  rw [h3]; exact h4
theorem run_put {OB : Option Addr} {no t k : Nat} {ls : List (List Int)} {pv nv nw : Value} (hX : X 1 = (tos ++ List.replicate t k).map (fun t : Nat => Value.int .i64 (t : Int))) (ht : t < ls.length)
    (S : Sep w0 7 (RunO P Q E R (updE (updE V 0 nv) 1 nw) (updE (updE X 0 (X 0 ++ [pv])) 1 (updE X 0 (X 0 ++ [pv]) 1 ++ [.int .i64 (k : Int)])) (fun L Mu w => (RunJ P Q ge gm X (pk ++ ls.take t) L Mu w ∧ Packs L Mu w OB no ls) ∧ PkV L Mu w pv (ls.getD t []))) w) :
    ∃ V' X', nv = V' 0 ∧ nw = V' 1 ∧ X' 1 = (tos ++ List.replicate (t + 1) k).map (fun t : Nat => Value.int .i64 (t : Int)) ∧ Sep w0 7 (RunO P Q E R V' X' (fun L Mu w => RunJ P Q ge gm X' (pk ++ ls.take (t + 1)) L Mu w ∧ Packs L Mu w OB no ls)) w := by
  refine ⟨_, _, ?_, ?_, ?_, rs_imp S ((RunJ.stab _ _ _ _ _ _).and (Packs.stab _ _ _)) (fun Mu h => ⟨⟨h.1.1.1, h.1.1.2.1, ?_⟩, h.1.2⟩)⟩
  · rw [updE_ne _ _ (by decide), updE_same]
  · rw [updE_same]
  · rw [updE_same, updE_ne _ _ (by decide), hX, List.replicate_succ', ← List.append_assoc]; simp
  · rw [updE_ne _ _ (by decide), updE_same]
    have e : pk ++ ls.take (t + 1) = (pk ++ ls.take t) ++ [ls.getD t []] := by
      rw [List.take_succ_eq_append_getElem ht, List.append_assoc, List.getD_eq_getElem?_getD, List.getElem?_eq_getElem ht]; rfl
    rw [e]
    exact h.1.1.2.2.snoc h.2
theorem run_outs (HR : ∀ k, k < 2 → RunR (win k) key (E k) (R k) m) (HPK : (∀ j, j < pk.length → Byt (pk.getD j []) ∧ 12 ≤ (pk.getD j []).length ∧ (pk.getD j []).length ≤ 100) ∧ pk.length ≤ 16 * m ∧ tos.length = pk.length ∧ ∀ t ∈ tos, t < 2) (hm : m ≤ 60) {k : Nat} (hk : k < 2) (hw : win k ≤ 16) {OB : Option Addr} {no : Nat} (hno : (outL (E k)).length = no) (HX : X 1 = (tos ++ List.replicate no (1 - k)).map (fun t : Nat => Value.int .i64 (t : Int)))
    (S : Sep w0 7 (RunO P Q (updE E k (outE (E k))) (updE R k (outR (R k))) V X (fun L Mu w => RunJ P Q ge gm X (pk ++ (outL (E k)).take no) L Mu w ∧ Packs L Mu w OB no (outL (E k)))) w) : RunSt w0 P Q ge gm win key (m + 1) (V 0) (V 1) w := by
  obtain ⟨h1, h2⟩ := (HR k hk).pks hm hw
  have e : (outL (E k)).take no = outL (E k) := List.take_of_length_le (by omega)
  rw [e] at S
  refine ⟨_, _, pk ++ outL (E k), tos ++ List.replicate no (1 - k), V, X, rfl, rfl, runr_upd HR (HR k hk).out.1, ⟨fun j hj => ?_, ?_, ?_, fun t ht => ?_⟩, HX, rs_imp S (RunJ.stab _ _ _ _ _ _) (fun Mu h => h.1)⟩
  · rw [List.getD_eq_getElem?_getD]
    by_cases hjl : j < pk.length
    · rw [List.getElem?_append_left hjl, ← List.getD_eq_getElem?_getD]; exact HPK.1 j hjl
    · rw [List.getElem?_append_right (by omega), ← List.getD_eq_getElem?_getD]
      exact h1 _ (by rw [List.length_append] at hj; omega)
  · rw [List.length_append]; have := HPK.2.1; omega
  · rw [List.length_append, List.length_append, List.length_replicate, HPK.2.2.1, hno]
  · rw [List.mem_append] at ht
    rcases ht with ht | ht
    · exact HPK.2.2.2 t ht
    · have := (List.mem_replicate.1 ht).2; omega
end
section
variable {w0 w : World} {P Q : Nat → Nat} {ge gm : Nat} {win : Nat → Int} {key : Int} {E : Nat → EndS} {R : Nat → RefS} {V : Nat → Value} {X : Nat → List Value} {J : LawI} {pk : List (List Int)} {tos : List Nat} {m : Nat}
theorem run_late (HR : ∀ k, k < 2 → RunR (win k) key (E k) (R k) m) (HPK : (∀ j, j < pk.length → Byt (pk.getD j []) ∧ 12 ≤ (pk.getD j []).length ∧ (pk.getD j []).length ≤ 100) ∧ pk.length ≤ 16 * m ∧ tos.length = pk.length ∧ ∀ t ∈ tos, t < 2) (HX : X 1 = tos.map (fun t : Nat => Value.int .i64 (t : Int))) (S : Sep w0 7 (RunO P Q E R V X (RunJ P Q ge gm X pk)) w) : RunSt w0 P Q ge gm win key (m + 1) (V 0) (V 1) w :=
  ⟨_, _, pk, tos, V, X, rfl, rfl, fun k hk => (HR k hk).late (by omega), ⟨HPK.1, by have := HPK.2.1; omega, HPK.2.2⟩, HX, S⟩
theorem run_got (HPK : (∀ j, j < pk.length → Byt (pk.getD j []) ∧ 12 ≤ (pk.getD j []).length ∧ (pk.getD j []).length ≤ 100) ∧ pk.length ≤ 16 * m ∧ tos.length = pk.length ∧ ∀ t ∈ tos, t < 2) (HX : X 1 = tos.map (fun t : Nat => Value.int .i64 (t : Int))) {E' : Nat → EndS} {R' : Nat → RefS} (HR : ∀ k, k < 2 → RunR (win k) key (E' k) (R' k) (m + 1)) (hJ : ∀ Mu, J (fun _ => True) Mu w → RunJ P Q ge gm X pk (fun _ => True) Mu w) (S : Sep w0 7 (RunO P Q E' R' V X J) w) : RunSt w0 P Q ge gm win key (m + 1) (V 0) (V 1) w :=
  ⟨_, _, pk, tos, V, X, rfl, rfl, HR, ⟨HPK.1, by have := HPK.2.1; omega, HPK.2.2⟩, HX, rs_imp S (RunJ.stab _ _ _ _ _ _) hJ⟩
theorem rs_cell (S : Sep w0 7 (RunO P Q E R V X J) w) {k : Nat} (hk : k < 2) {g n c : Nat} (hV : V k = .slice (some ⟨g, 0, none⟩) n c) (hn : (X k).length = n) {j : Nat} (hj : j < n) : w.cell? ⟨g, j, none⟩ = (X k)[j]? := by
  have h := rs_row S hk
  rw [hV, hn] at h
  exact (row_cell h j hj).1
theorem rs_addr (S : Sep w0 7 (RunO P Q E R V X J) w) {k : Nat} (hk : k < 2) {A : Option Addr} {n c : Nat} (hV : V k = .slice A n c) (h0 : 0 < n) : ∃ g, A = some ⟨g, 0, none⟩ := by
  have h := rs_row S hk
  rw [hV] at h
  rcases h.2 with ⟨h1, _⟩ | ⟨g', cap, cur, h1, _⟩
  · injection h1 with _ h1 _; omega
  · injection h1 with h1 _ _; exact ⟨g', h1⟩
end
/-- The bytes that the law has made for a call of In. -/
def BufSt (lo : Nat) (wo : World) (s : Value) (wx : World) : Prop :=
  ∃ (g n c : Nat) (x : List Int), s = .slice (some ⟨g, 0, none⟩) n c ∧ n ≤ c ∧ c ≤ 9223372036854775807 ∧ wo.heap.size ≤ g ∧ Byt x ∧ lo ≤ n ∧ n ≤ 100 ∧ wx.ownsRow wo.heap.size 5 1 (.slice (some ⟨g, 0, none⟩) n c) n (u8s x) ∧ Ext wo wx
theorem byt_take {x : List Int} (h : Byt x) (k : Nat) : Byt (x.take k) := fun y hy => h y (List.mem_of_mem_take hy)
theorem own_take {w : World} {b g n c k : Nat} {x : List Int} (ho : w.ownsRow b 5 1 (.slice (some ⟨g, 0, none⟩) n c) n (u8s x)) (hk : k ≤ n) : w.ownsRow b 5 1 (.slice (some ⟨g, 0, none⟩) k c) k (u8s (x.take k)) := by
  have hl : x.length = n := by simpa [u8s] using ho.1
  refine ⟨by simp [u8s]; omega, Or.inr ?_⟩
  rcases ho.2 with ⟨h1, _⟩ | ⟨g', cap, cur, h1, h2, h3, h4, h5, h6, h7⟩
  · cases h1
  · injection h1 with h1 _ h8
    injection h1 with h1
    injection h1 with h1 _
    subst h1; subst h8
    refine ⟨g, c, cur, rfl, h2, h3, by omega, h5, h6, ?_⟩
    have e : (cur.toList.take (n * 1)).take (k * 1) = (u8s x).take (k * 1) := by rw [h7]
    rw [List.take_take, Nat.min_eq_left (by omega)] at e
    rw [e]
    simp [u8s, List.map_take]
theorem int_bytes : (Try.prog.info? 3).map (fun i => (i.zero, i.size, i.bytes)) = some (some (.int .i64 0), 1, 8) := by kernel_rfl
theorem tdiv8 {x : Int} (h : in64 x) : in64 (x.tdiv 8) := by
  obtain ⟨h1, h2⟩ := h
  unfold in64
  rcases Int.le_total 0 x with h | h
  · rw [Int.tdiv_eq_ediv_of_nonneg h]; omega
  · have e : x.tdiv 8 = -((-x).tdiv 8) := by rw [Int.neg_tdiv]; omega
    rw [e, Int.tdiv_eq_ediv_of_nonneg (by omega)]; omega
theorem cell_new0 (w : World) (v : Value) (t : TypeId) : (w.alloc (.cells #[v] t)).cell? ((⟨w.heap.size, 0, none⟩ : Addr).add 0) = some v := by
  rw [add_at]
  exact (Blk.fresh w t [v]).cell 0
theorem run_start2 {w0 W : World} {P : Nat → Nat} {ge : Nat} {win : Nat → Int} {key x0 x1 : Int} (h0 : x0 = win 0) (h1 : x1 = win 1) (hw : ∀ k, 1 ≤ win k ∧ win k ≤ 16) (k0 : 0 ≤ key) (k1 : key ≤ 18446744073709551615) (S : LawSt w0 P (fun k => newE (win k) key) (fun L Mu w => Cel L Mu w ge (ptrC P)) W) :
    ∃ (Q : Nat → Nat) (gm : Nat) (w3 : World), gm = W.heap.size + 1 + 1 ∧ w3 = ((W.alloc (.cells #[.int .i64 (x0), .int .u64 key, .slice none 0 0, .int .i64 0, .int .i64 0, .slice none 0 0, .bool false, .int .i64 0] 31)).alloc (.cells #[.int .i64 (x1), .int .u64 key, .slice none 0 0, .int .i64 0, .int .i64 0, .slice none 0 0, .bool false, .int .i64 0] 31)).alloc (.cells #[.pointer (some ⟨W.heap.size, 0, none⟩), .pointer (some ⟨W.heap.size + 1, 0, none⟩)] 26) ∧ RunSt w0 P Q ge gm win key 0 (.slice none 0 0) (.slice none 0 0) w3 := by
  subst h0 h1
  have b2 := Blk.fresh (W.alloc (.cells #[.int .i64 (win 0), .int .u64 key, .slice none 0 0, .int .i64 0, .int .i64 0, .slice none 0 0, .bool false, .int .i64 0] 31)) 31 [.int .i64 (win 1), .int .u64 key, .slice none 0 0, .int .i64 0, .int .i64 0, .slice none 0 0, .bool false, .int .i64 0]
  have b3 := Blk.fresh ((W.alloc (.cells #[.int .i64 (win 0), .int .u64 key, .slice none 0 0, .int .i64 0, .int .i64 0, .slice none 0 0, .bool false, .int .i64 0] 31)).alloc (.cells #[.int .i64 (win 1), .int .u64 key, .slice none 0 0, .int .i64 0, .int .i64 0, .slice none 0 0, .bool false, .int .i64 0] 31)) 26 [.pointer (some ⟨W.heap.size, 0, none⟩), .pointer (some ⟨W.heap.size + 1, 0, none⟩)]
  rw [World.size_alloc] at b2
  rw [World.size_alloc, World.size_alloc] at b3
  obtain ⟨Q, h⟩ := run_start hw k0 k1 S ((Ext.refl W).alloc _) (Nat.le_refl _) (Blk.fresh W 31 [.int .i64 (win 0), .int .u64 key, .slice none 0 0, .int .i64 0, .int .i64 0, .slice none 0 0, .bool false, .int .i64 0]) ((Ext.refl _).alloc _) (by rw [World.size_alloc]; exact Nat.le_refl _) b2 ((Ext.refl _).alloc _) (by rw [World.size_alloc, World.size_alloc]; exact Nat.le_refl _) b3
  exact ⟨Q, _, _, rfl, rfl, h⟩
set_option maxHeartbeats 16000000 in
set_option maxRecDepth 100000 in
theorem walk_runs (window key : Int) (l : List Int) (A : Option Addr) (n c : Nat) (w : World) (hwi : in64 window) (k0 : 0 ≤ key) (k1 : key ≤ 18446744073709551615) (hl : Rd w w.heap.size A n (l.map (Value.int .i64))) (hwf : ∀ x ∈ l, in64 x) (hnc : n ≤ c) (hc : c ≤ 9223372036854775807) :
    Calls Try.prog 3 #[.int .i64 window, .int .u64 key, .slice A n c] w fun e w' => e = .returned (.bool true) ∧ Below w.heap.size w w' := by
  obtain ⟨i0, hi, hz0, hz1, hz2⟩ := info_parts u8_bytes
  obtain ⟨j0, hj, hy0, hy1, hy2⟩ := info_parts int_bytes
  have HW := Lib.hid hwi; have HL := Lib.hid hl; have HWF := Lib.hid hwf
  have HW2 : Hid (in64 (window.tdiv 16)) := Lib.hid (tdiv16 hwi)
  have hln : l.length = n := by simpa using hl.1
  have HLN := Lib.hid hln
  obtain ⟨N, hN⟩ : ∃ N, N = min n 60 := ⟨_, rfl⟩
  have hN1 : N ≤ n := by omega
  have hN2 : N ≤ 60 := by omega
  have hN3 : n ≤ N ∨ 60 ≤ N := by omega
  obtain ⟨wA, hwA⟩ : ∃ a, a = aroundI window 16 := ⟨_, rfl⟩
  obtain ⟨wB, hwB⟩ : ∃ a, a = aroundI (window.tdiv 16) 16 := ⟨_, rfl⟩
  obtain ⟨a0, a1⟩ := aroundI_bd window 16 (by decide)
  obtain ⟨b0, b1⟩ := aroundI_bd (window.tdiv 16) 16 (by decide)
  rw [← hwA] at a0 a1
  rw [← hwB] at b0 b1
  have HWA := Lib.hid hwA; have HWB := Lib.hid hwB
  obtain ⟨hwi1, hwi2⟩ := hwi
  clear hl hwf hln hN hwA hwB
  have hnil := fun (w : World) (a : Addr) => Lib.run_eql_slice_nil w _ _ (some a) 2 2 0 0 Try.underlying24
  go_enter Try.func3, Try.ntmps3
  go_upto_region 2 with (go_loud (go_at_call 9; (with_reducible refine (ends_any window key w HW.out k0 k1).mono ?_); rintro e w1 ⟨ge, P, rfl, hS⟩; have S1 := Lib.hid hS; clear hS))
  have HAA := Lib.hid (around_w window 16 w1 HW.out (by decide) (by decide))
  have HAB := Lib.hid (fun W => around_w (window.tdiv 16) 16 W HW2.out (by decide) (by decide))
  rw [← HWA.out] at HAA
  rw [← HWB.out] at HAB
  go_upto_region 5 with (go_loud (first
    | (go_at_call 10; (with_reducible refine HAA.out.mono ?_); rintro e w7 ⟨rfl, rfl⟩)
    | (go_at_call 10; (with_reducible refine (HAB.out _).mono ?_); rintro e w7 ⟨rfl, rfl⟩)))
  obtain ⟨Q, gm, w3, hgm, hw3, hR0⟩ := run_start2 (x0 := 1 + wA) (x1 := 1 + wB) (by rw [HWA.out]; rfl) (by rw [HWB.out]; rfl) (winE_bd window) k0 k1 S1.out
  rw [← hgm]
  change Code.wp _ _ _ _ (((w1.alloc (.cells #[.int .i64 (1 + wA), .int .u64 key, .slice none 0 0, .int .i64 0, .int .i64 0, .slice none 0 0, .bool false, .int .i64 0] 31)).alloc (.cells #[.int .i64 (1 + wB), .int .u64 key, .slice none 0 0, .int .i64 0, .int .i64 0, .slice none 0 0, .bool false, .int .i64 0] 31)).alloc (.cells #[.pointer (some ⟨w1.heap.size, 0, none⟩), .pointer (some ⟨w1.heap.size + 1, 0, none⟩)] 26))
  rw [← hw3]
  have R0 := Lib.hid hR0
  clear hR0 hw3 hgm S1 HAA HAB HWA HWB
  go_wp2_with fail
  go_loopw [9, 10, 11] (fun s9 s10 i wr => ∃ m : Nat, m ≤ N ∧ i = .int .i64 m ∧ RunSt w P Q ge gm (winE window) key m s9 s10 wr) (fun _ _ i _ => N - (intOf i).toNat)
  case atStart => exact ⟨0, by omega, rfl, R0.out⟩
  case round =>
    clear R0
    obtain ⟨m, hm, rfl, hO⟩ := hrel
    have HO := Lib.hid hO
    clear hO
    obtain ⟨wo, rfl⟩ : ∃ x : World, x = wr := ⟨_, rfl⟩
    by_cases hlt : m < N
    · have hmn : m < n := by omega
      have hm60 : m < 60 := by omega
      obtain ⟨E, R, pk, tos, V, X, h9, h10, hRR, hPK, hX1, hS⟩ := HO.out
      obtain ⟨hpk1, hpk2, hpk3, hpk4⟩ := hPK
      obtain ⟨pA, pc, hV0, hpc1, hpc2⟩ := own_form (rs_row hS (k := 0) (by decide))
      obtain ⟨tA, tc, hV1, htc1, htc2⟩ := own_form (rs_row hS (k := 1) (by decide))
      obtain ⟨np, hnp⟩ : ∃ x, x = pk.length := ⟨_, rfl⟩
      obtain ⟨Mu0, hJ0, hMl0⟩ := rs_facts hS
      have hX0 : (X 0).length = np := by rw [hJ0.2.2.1, hnp]
      have hX1l : (X 1).length = np := by rw [hX1, List.length_map, hpk3, hnp]
      rw [hX0] at hV0 hpc1
      rw [hX1l] at hV1 htc1
      have hnp2 : np ≤ 960 := by omega
      have h11 := h9.trans hV0
      have h12 := h10.trans hV1
      clear h9 h10
      subst h11
      subst h12
      have HX0 := Lib.hid hX0; have HX1 := Lib.hid hX1; have HX1L := Lib.hid hX1l; have HV0 := Lib.hid hV0; have HV1 := Lib.hid hV1; have HNP := Lib.hid hnp
      have HR := Lib.hid hRR; have HS := Lib.hid hS; have HPK := Lib.hid (And.intro hpk1 (And.intro hpk2 (And.intro hpk3 hpk4)))
      have HGE : Hid (∀ k, k < 2 → wo.cell? ⟨ge, k, none⟩ = some (.pointer (some ⟨P k, 0, none⟩)) ∧ wo.cell? ⟨gm, k, none⟩ = some (.pointer (some ⟨Q k, 0, none⟩))) := Lib.hid (fun k hk => ⟨hJ0.1.2.2.2 k _ (ptrC_at P hk), hJ0.2.1.2.2.2 k _ (ptrC_at Q hk)⟩)
      clear hRR hS hpk1 hpk2 hpk3 hpk4 hX0 hX1 hX1l hV0 hV1 hnp hJ0 hMl0 HO
      obtain ⟨b, ob, ux, hA, hbl, hux, hcx⟩ := HL.out.at_ hmn
      subst hA
      obtain ⟨x, hx⟩ : ∃ x, x = l.getD m 0 := ⟨_, rfl⟩
      have hxm : ux = .int .i64 x := by
        rw [List.getElem?_map, List.getElem?_eq_getElem (by rw [HLN.out]; exact hmn)] at hux
        simp only [Option.map_some, Option.some.injEq] at hux
        rw [← hux, hx, List.getD_eq_getElem?_getD, List.getElem?_eq_getElem (by rw [HLN.out]; exact hmn)]; rfl
      have hx64 : in64 x := by
        rw [hx, List.getD_eq_getElem?_getD, List.getElem?_eq_getElem (by rw [HLN.out]; exact hmn)]
        exact HWF.out _ (List.getElem_mem _)
      rw [hxm] at hcx
      have hcx2 : wo.cell? ⟨b, ob + m, none⟩ = some (.int .i64 x) := (HS.out.e.cell (p := ⟨b, ob + m, none⟩) hbl).trans hcx
      have HX64 := Lib.hid hx64; have HX8 : Hid (in64 (x.tdiv 8)) := Lib.hid (tdiv8 hx64)
      clear hcx hxm hux hx hx64
      obtain ⟨nn, hnn, hnnb⟩ := around_nat (x.tdiv 8) 1073741824 (by decide)
      obtain ⟨cc, hcc, hccb⟩ := around_nat x 8 (by decide)
      have HNN : Hid ((nn : Int) = aroundI (x.tdiv 8) 1073741824) := Lib.hid hnn
      have HCC : Hid ((cc : Int) = aroundI x 8) := Lib.hid hcc
      clear hnn hcc
      obtain ⟨k, hkm, hk2⟩ : ∃ k : Nat, (nn : Int) % 2 = k ∧ k < 2 := ⟨nn % 2, by omega, by omega⟩
      have HAR1 := Lib.hid (around_w (x.tdiv 8) 1073741824 wo HX8.out (by decide) (by decide))
      have HAR2 := Lib.hid (around_w x 8 wo HX64.out (by decide) (by decide))
      rw [← HNN.out] at HAR1
      rw [← HCC.out] at HAR2
      obtain ⟨hxb1, hxb2⟩ := HX64.out
      go_upto_block 2 with (go_loud (first
        | (go_at_call 10; (with_reducible refine HAR1.out.mono ?_); rintro e w7 ⟨rfl, rfl⟩)
        | (go_at_call 10; (with_reducible refine HAR2.out.mono ?_); rintro e w7 ⟨rfl, rfl⟩)))
      clear hkm hcx2 HAR1 HAR2 HNN HCC HX64 HX8 hxb1 hxb2
      go_cut [9, 10, 14, 15, 16, 17, 18, 19, 20, 21, 22, 23] from 67 to 215 (fun s9 s10 s14 s15 s16 s17 s18 s19 s20 s21 s22 s23 wx => RunSt w P Q ge gm (winE window) key (m + 1) s9 s10 wx)
      case first =>
        obtain ⟨b1, hb1⟩ : ∃ b, b = decide (cc < 2) := ⟨_, rfl⟩
        obtain ⟨b2, hb2⟩ : ∃ b, b = decide (cc < 4) := ⟨_, rfl⟩
        have HB1 := Lib.hid hb1; have HB2 := Lib.hid hb2
        clear hb1 hb2
        go_upto_if 160 with fail
        go_cut [160] from 161 to 162 (fun s160 wx => s160 = .bool b1 ∧ wo = wx)
        case first =>
          by_cases c0 : cc = 0
          · have q0 : ((cc : Int) == 0) = true := by rw [c0]; rfl
            clear c0
            go_wp2_with fail
            go_meet
            case rel => exact ⟨by have h := HB1.out; have q : cc = 0 := (by simpa using q0); rw [h, q]; rfl, rfl⟩
          · have q0 : ((cc : Int) == 0) = false := by rw [beq_eq_false_iff_ne]; omega
            go_wp2_with fail
            go_meet
            case rel => exact ⟨by have h := HB1.out; rw [h]; congr 1; rw [Bool.eq_iff_iff, beq_iff_eq, decide_eq_true_eq]; omega, rfl⟩
        case rest =>
          obtain ⟨hcu, rfl⟩ := hcut
          subst hcu
          by_cases cA : cc < 2
          · obtain rfl : b1 = true := by rw [HB1.out]; exact decide_eq_true cA
            as_aux_lemma =>
              go_upto_region 29 with fail
              change Code.wp _ _ _ _ (wo.alloc (.cells #[.int .u8 (m : Int), .int .u8 ((nn : Int) % 256)] 5))
              obtain ⟨w5, hw5⟩ : ∃ x, x = wo.alloc (.cells #[.int .u8 (m : Int), .int .u8 ((nn : Int) % 256)] 5) := ⟨_, rfl⟩
              rw [← hw5]
              obtain ⟨gb, hgb⟩ : ∃ g, g = wo.heap.size := ⟨_, rfl⟩
              rw [← hgb]
              have B5 : Hid (Blk w5 gb 5 [.int .u8 (m : Int), .int .u8 ((nn : Int) % 256)]) := Lib.hid (by rw [hw5, hgb]; exact Blk.fresh _ _ _)
              have E5 : Hid (Ext wo w5) := Lib.hid (by rw [hw5]; exact (Ext.refl wo).alloc _)
              have HG5 : Hid (wo.heap.size ≤ gb) := Lib.hid (Nat.le_of_eq hgb.symm)
              clear hw5 hgb
              obtain ⟨msg, hmsg⟩ : ∃ x : List Int, x = [(m : Int), (nn : Int) % 256] := ⟨_, rfl⟩
              have HMB : Hid (Byt msg ∧ msg.length = 2) := Lib.hid (by rw [hmsg]; exact ⟨fun y hy => (by simp only [List.mem_cons, List.not_mem_nil, or_false] at hy; omega), rfl⟩)
              have S5 : Hid (Sep w 7 (RunO P Q E R V X (fun L Mu w => RunJ P Q ge gm X pk L Mu w ∧ PkV L Mu w (.slice (some ⟨gb, 0, none⟩) 2 2) msg)) w5) := Lib.hid (rs_new HS.out E5.out ((RunJ.stab P Q ge gm X pk).and (PkV.stab _ _)) (fun Mu hMu hj => ⟨hj, gb, 2, by rw [HMB.out.2], by rw [HMB.out.2]; exact Nat.le_refl _, by omega, trivial, fun h => by have h1 := hMu gb h; have h2 := HG5.out; omega, B5.out.lt, by rw [HMB.out.2, hmsg]; exact B5.out.rd rfl⟩))
              have HFA := Lib.hid ((HR.out k hk2).facts (by omega))
              have HPI : Hid (∀ E' R' W, Sep w 7 (RunO P Q E' R' V X (fun L Mu w => RunJ P Q ge gm X pk L Mu w ∧ PkV L Mu w (.slice (some ⟨gb, 0, none⟩) 2 2) msg)) W → W.cell? ⟨ge, k, none⟩ = some (.pointer (some ⟨P k, 0, none⟩)) ∧ W.cell? ⟨gm, k, none⟩ = some (.pointer (some ⟨Q k, 0, none⟩))) := Lib.hid (fun E' R' W hW => rs_cels hW (fun Mu h => h.1) hk2)
              clear hmsg HS HGE E5 B5 HG5
              refine wp_region_flowW 13 5 11 _ ?FW29 (fun us => ?_) (by kernel_rfl) (by kernel_rfl) (by decide) rfl (by decide) (by kernel_rfl) (by decide) (fun a b => Ext a b) (fun i W => match i with | 0 => Sep w 7 (RunO P Q E R V X (fun L Mu w => RunJ P Q ge gm X pk L Mu w ∧ PkV L Mu w (.slice (some ⟨gb, 0, none⟩) 2 2) msg)) W | 1 => Sep w 7 (RunO P Q (updE E k (sendE (E k) msg)) R V X (fun L Mu w => RunJ P Q ge gm X pk L Mu w ∧ PkV L Mu w (.slice (some ⟨gb, 0, none⟩) 2 2) msg)) W | _ => Sep w 7 (RunO P Q (updE E k (sendE (E k) msg)) (updE R k (sendR (R k) msg)) V X (fun L Mu w => RunJ P Q ge gm X pk L Mu w ∧ PkV L Mu w (.slice (some ⟨gb, 0, none⟩) 2 2) msg)) W) (fun W => W.cell? ⟨ge, k, none⟩ = some (.pointer (some ⟨P k, 0, none⟩)) ∧ W.cell? ⟨gm, k, none⟩ = some (.pointer (some ⟨Q k, 0, none⟩))) (fun i W W2 h hp => by rcases i with _ | _ | i <;> exact Sep.ext hp h) (fun i W hp => by rcases i with _ | _ | i <;> exact HPI.out _ _ _ hp) (Sep.ext S5.out (Ext.refl w5).drew) (fun i v => match i with
                | 0 => v = .slice (some ⟨ge, 0, none⟩) 2 2
                | 1 => v = .int .i64 k
                | 2 => v = .pointer (some ⟨ge, k, none⟩)
                | 3 => v = .pointer (some ⟨P k, 0, none⟩)
                | 4 => v = .slice (some ⟨gb, 0, none⟩) 2 2
                | 5 => v = .int .i64 0
                | 6 => v = .slice (some ⟨gm, 0, none⟩) 2 2
                | 7 => v = .int .i64 k
                | 8 => v = .pointer (some ⟨gm, k, none⟩)
                | 9 => v = .pointer (some ⟨Q k, 0, none⟩)
                | 10 => v = .slice (some ⟨gb, 0, none⟩) 2 2
                | 11 => v = .int .i64 0
                | 12 => v = .bool false
                | _ => True) ?_ ?_
              case refine_1 =>
                simp only [List.take_succ_cons, List.take_zero, flowAct, Nat.zero_add, Nat.reduceAdd, Act.put, List.setIfInBounds_toArray, List.set_cons_succ, List.set_cons_zero]
                rfl
              · simp only [List.take_succ_cons, List.take_zero, flowStepsW]
                refine ⟨?_, ?_, ?_, ?_, ?_, ?_, ?_, ?_, ?_, ?_, ?_, ?_, ?_, trivial⟩
                · intro us W K hE hd hK
                  simp only [Nat.reduceAdd, Nat.zero_add, Nat.reduceBEq, cond_true, cond_false] at hE hK
                  dsimp only at hK ⊢
                  have HK := Lib.hid hK; have HE := Lib.hid hE
                  clear hK hd hE
                  go_wp2_with fail
                  exact K_at (HK.out (.slice (some ⟨ge, 0, none⟩) 2 2) W rfl (Ext.refl W)) (by kernel_rfl)
                · intro us W K hE hd hK
                  simp only [Nat.reduceAdd, Nat.zero_add, Nat.reduceBEq, cond_true, cond_false] at hE hK
                  dsimp only at hK ⊢
                  have HK := Lib.hid hK; have HE := Lib.hid hE
                  clear hK hd hE
                  go_wp2_with fail
                  exact K_at (HK.out (.int .i64 k) W rfl (Ext.refl W)) (by kernel_rfl)
                · intro us W K hE hd hK
                  simp only [Nat.reduceAdd, Nat.zero_add, Nat.reduceBEq, cond_true, cond_false] at hE hK
                  have d0 := hd 0 (by kernel_rfl)
                  have d1 := hd 1 (by kernel_rfl)
                  dsimp only at hK ⊢
                  rw [d0, d1] at hK ⊢
                  have HK := Lib.hid hK; have HE := Lib.hid hE
                  clear hK hd hE d0 d1
                  go_wp2_with fail
                  exact K_at (HK.out (.pointer (some ⟨ge, k, none⟩)) W rfl (Ext.refl W)) (by kernel_rfl)
                · intro us W K hE hd hK
                  simp only [Nat.reduceAdd, Nat.zero_add, Nat.reduceBEq, cond_true, cond_false] at hE hK
                  have d2 := hd 2 (by kernel_rfl)
                  have c0 := hE.1
                  dsimp only at hK ⊢
                  rw [d2] at hK ⊢
                  have HK := Lib.hid hK; have HE := Lib.hid hE
                  clear hK hd hE d2
                  go_wp2_with fail
                  exact K_at (HK.out (.pointer (some ⟨P k, 0, none⟩)) W rfl (Ext.refl W)) (by kernel_rfl)
                · intro us W K hE hd hK
                  simp only [Nat.reduceAdd, Nat.zero_add, Nat.reduceBEq, cond_true, cond_false] at hE hK
                  dsimp only at hK ⊢
                  have HK := Lib.hid hK; have HE := Lib.hid hE
                  clear hK hd hE
                  go_wp2_with fail
                  exact K_at (HK.out (.slice (some ⟨gb, 0, none⟩) 2 2) W rfl (Ext.refl W)) (by kernel_rfl)
                · intro us W K hE hd hK
                  simp only [Nat.reduceAdd, Nat.zero_add, Nat.reduceBEq, cond_true, cond_false] at hE hK
                  have d3 := hd 3 (by kernel_rfl)
                  have d4 := hd 4 (by kernel_rfl)
                  obtain ⟨Mu1, hJ1, _⟩ := rs_facts hE
                  have HRM := Lib.hid (pkv_rd hJ1.2)
                  dsimp only at hK ⊢
                  rw [d3, d4] at hK ⊢
                  have HK := Lib.hid hK; have HE := Lib.hid hE
                  clear hK hd hE d3 d4 hJ1
                  go_wp2_with (go_loud (go_at_call 11; (with_reducible refine (rs_send HE.out hk2 msg (some ⟨gb, 0, none⟩) 2 2 HRM.out HMB.out.1 (by decide) HFA.out.1.1 HFA.out.1.2).mono ?_); rintro e w6 ⟨rfl, hS6⟩; have S6 := Lib.hid hS6; clear hS6))
                  exact K_at (HK.out (.int .i64 0) w6 rfl S6.out) (by kernel_rfl)
                · intro us W K hE hd hK
                  simp only [Nat.reduceAdd, Nat.zero_add, Nat.reduceBEq, cond_true, cond_false] at hE hK
                  dsimp only at hK ⊢
                  have HK := Lib.hid hK; have HE := Lib.hid hE
                  clear hK hd hE
                  go_wp2_with fail
                  exact K_at (HK.out (.slice (some ⟨gm, 0, none⟩) 2 2) W rfl (Ext.refl W)) (by kernel_rfl)
                · intro us W K hE hd hK
                  simp only [Nat.reduceAdd, Nat.zero_add, Nat.reduceBEq, cond_true, cond_false] at hE hK
                  dsimp only at hK ⊢
                  have HK := Lib.hid hK; have HE := Lib.hid hE
                  clear hK hd hE
                  go_wp2_with fail
                  exact K_at (HK.out (.int .i64 k) W rfl (Ext.refl W)) (by kernel_rfl)
                · intro us W K hE hd hK
                  simp only [Nat.reduceAdd, Nat.zero_add, Nat.reduceBEq, cond_true, cond_false] at hE hK
                  have d6 := hd 6 (by kernel_rfl)
                  have d7 := hd 7 (by kernel_rfl)
                  dsimp only at hK ⊢
                  rw [d6, d7] at hK ⊢
                  have HK := Lib.hid hK; have HE := Lib.hid hE
                  clear hK hd hE d6 d7
                  go_wp2_with fail
                  exact K_at (HK.out (.pointer (some ⟨gm, k, none⟩)) W rfl (Ext.refl W)) (by kernel_rfl)
                · intro us W K hE hd hK
                  simp only [Nat.reduceAdd, Nat.zero_add, Nat.reduceBEq, cond_true, cond_false] at hE hK
                  have d8 := hd 8 (by kernel_rfl)
                  have c0 := hE.2
                  dsimp only at hK ⊢
                  rw [d8] at hK ⊢
                  have HK := Lib.hid hK; have HE := Lib.hid hE
                  clear hK hd hE d8
                  go_wp2_with fail
                  exact K_at (HK.out (.pointer (some ⟨Q k, 0, none⟩)) W rfl (Ext.refl W)) (by kernel_rfl)
                · intro us W K hE hd hK
                  simp only [Nat.reduceAdd, Nat.zero_add, Nat.reduceBEq, cond_true, cond_false] at hE hK
                  dsimp only at hK ⊢
                  have HK := Lib.hid hK; have HE := Lib.hid hE
                  clear hK hd hE
                  go_wp2_with fail
                  exact K_at (HK.out (.slice (some ⟨gb, 0, none⟩) 2 2) W rfl (Ext.refl W)) (by kernel_rfl)
                · intro us W K hE hd hK
                  simp only [Nat.reduceAdd, Nat.zero_add, Nat.reduceBEq, cond_true, cond_false] at hE hK
                  have d9 := hd 9 (by kernel_rfl)
                  have d10 := hd 10 (by kernel_rfl)
                  dsimp only at hK ⊢
                  rw [d9, d10] at hK ⊢
                  have HK := Lib.hid hK; have HE := Lib.hid hE
                  clear hK hd hE d9 d10
                  go_wp2_with (go_loud (go_at_call 12; (with_reducible refine (rs_rsend HE.out hk2 msg (some ⟨gb, 0, none⟩) 2 2 (fun Mu h => h.2.msg HMB.out.1 (by rw [HMB.out.2]; decide)) (by decide) HFA.out.2.2.1.1 HFA.out.2.2.1.2).mono ?_); rintro e w6 ⟨rfl, hS6⟩; have S6 := Lib.hid hS6; clear hS6))
                  exact K_at (HK.out (.int .i64 0) w6 rfl S6.out) (by kernel_rfl)
                · intro us W K hE hd hK
                  simp only [Nat.reduceAdd, Nat.zero_add, Nat.reduceBEq, cond_true, cond_false] at hE hK
                  have d5 := hd 5 (by kernel_rfl)
                  have d11 := hd 11 (by kernel_rfl)
                  dsimp only at hK ⊢
                  rw [d5, d11] at hK ⊢
                  have HK := Lib.hid hK; have HE := Lib.hid hE
                  clear hK hd hE d5 d11
                  go_wp2_with fail
                  exact K_at (HK.out (.bool false) W rfl (Ext.refl W)) (by kernel_rfl)
              · intro us W hE hd
                try dsimp only
                have d12 := hd 12 (by decide)
                simp only [List.drop_succ_cons, List.drop_zero]
                rw [d12]
                have S7 := Lib.hid hE
                clear hE hd d12
                go_wp2_with fail
                go_meet
                case rel => exact run_rel HV0.out HV1.out (run_sent HR.out HPK.out HX1.out hk2 HMB.out S7.out)
          · obtain rfl : b1 = false := by rw [HB1.out]; exact decide_eq_false cA
            go_upto_if 181 with fail
            go_cut [181] from 182 to 183 (fun s181 wx => s181 = .bool b2 ∧ wo = wx)
            case first =>
              by_cases c0 : cc = 2
              · have q0 : ((cc : Int) == 2) = true := by rw [c0]; rfl
                clear c0
                go_wp2_with fail
                go_meet
                case rel => exact ⟨by have h := HB2.out; have q : cc = 2 := (by have := (beq_iff_eq.1 q0); omega); rw [h, q]; rfl, rfl⟩
              · have q0 : ((cc : Int) == 2) = false := by rw [beq_eq_false_iff_ne]; omega
                go_wp2_with fail
                go_meet
                case rel => exact ⟨by have h := HB2.out; rw [h]; congr 1; rw [Bool.eq_iff_iff, beq_iff_eq, decide_eq_true_eq]; omega, rfl⟩
            case rest =>
              obtain ⟨hcu, rfl⟩ := hcut
              subst hcu
              by_cases cB : cc < 4
              · obtain rfl : b2 = true := by rw [HB2.out]; exact decide_eq_true cB
                as_aux_lemma =>
                  obtain ⟨ce, cm0⟩ := HGE.out k hk2
                  have HFA := Lib.hid ((HR.out k hk2).facts (by omega))
                  have hJ := Lib.hid (RunJ.stab P Q ge gm X pk)
                  obtain ⟨ls, hls⟩ : ∃ x, x = outL (E k) := ⟨_, rfl⟩
                  have hls2 : outL (toE (R k) 0) = ls := by rw [hls]; exact (HR.out k hk2).out.2.symm
                  have HSO := Lib.hid (rs_out HS.out hJ.out hk2)
                  rw [← hls] at HSO
                  have HLS := Lib.hid hls; have HLS2 := Lib.hid hls2
                  clear hls hls2 cm0
                  go_upto_region 34 with (go_loud (go_at_call 13; (with_reducible refine HSO.out.mono ?_); rintro e w6 ⟨OA, oc, no, rfl, hoc1, hoc2, hno, hS6⟩; have HNO := Lib.hid hno; have S6 := Lib.hid hS6; clear hno hS6))
                  obtain ⟨_, cm⟩ := rs_cels S6.out (fun Mu h => h.1) hk2
                  have HSP := Lib.hid (rs_rout S6.out (hJ.out.and (Packs.stab _ _ _)) hk2)
                  rw [HLS2.out] at HSP
                  clear ce HS HSO
                  go_upto_region 35 with (go_loud (go_at_call 14; (with_reducible refine HSP.out.mono ?_); rintro e w7 ⟨OB, od, nq, rfl, hod1, hod2, hnq, hS7⟩; have HNQ := Lib.hid hnq; have S7 := Lib.hid hS7; clear hnq hS7))
                  obtain rfl : nq = no := by rw [← HNO.out, ← HNQ.out]
                  have HSL : Hid (Calls Try.prog 15 #[.slice OA nq oc, .slice OB nq od] w7 fun e w' => e = .returned (.bool true) ∧ Ext w7 w') := Lib.hid (by
                    obtain ⟨Mu, hJ1, _⟩ := rs_facts S7.out
                    exact sameLists_any ls OA OB nq oc od w7 (LLs.of_packs hJ1.1.2 HNO.out) (LLs.of_packs hJ1.2 HNO.out) hoc1 hoc2 hod1 hod2)
                  clear cm HSP S6
                  have hnob : nq ≤ 16 := by
                    rw [← HNO.out, HLS.out]
                    exact ((HR.out k hk2).pks (by omega) (winE_bd window k).2).2
                  go_upto_region 37 with (go_loud (go_at_call 15; (with_reducible refine HSL.out.mono ?_); rintro e w8 ⟨rfl, hE8⟩; have S8 := Lib.hid (S7.out.ext hE8); clear hE8))
                  have S9 : Hid (Sep w 7 (RunO P Q (updE E k (outE (E k))) (updE R k (outR (R k))) V X (fun L Mu w => RunJ P Q ge gm X (pk ++ ls.take 0) L Mu w ∧ Packs L Mu w OB nq ls)) w8) := Lib.hid (rs_imp S8.out ((RunJ.stab _ _ _ _ _ _).and (Packs.stab _ _ _)) (fun Mu h => ⟨by rw [List.take_zero, List.append_nil]; exact h.1.1, h.2⟩))
                  obtain ⟨k3, hk3, hk3e⟩ : ∃ j : Nat, (1 : Int) - (k : Int) = j ∧ j = 1 - k := ⟨1 - k, by omega, rfl⟩
                  have HK3 := Lib.hid hk3; have HK3E := Lib.hid hk3e
                  clear hk3 hk3e S7 S8 HSL
                  go_wp2_with fail
                  go_loopw [9, 10, 17] (fun s9 s10 j wx => ∃ (t : Nat) (V : Nat → Value) (X : Nat → List Value), t ≤ nq ∧ j = .int .i64 t ∧ s9 = V 0 ∧ s10 = V 1 ∧ X 1 = (tos ++ List.replicate t k3).map (fun t : Nat => Value.int .i64 (t : Int)) ∧ Sep w 7 (RunO P Q (updE E k (outE (E k))) (updE R k (outR (R k))) V X (fun L Mu w => RunJ P Q ge gm X (pk ++ ls.take t) L Mu w ∧ Packs L Mu w OB nq ls)) wx) (fun _ _ j _ => nq - (intOf j).toNat)
                  case atStart => exact ⟨0, V, X, by omega, rfl, HV0.out.symm, HV1.out.symm, by rw [List.replicate_zero, List.append_nil]; exact HX1.out, S9.out⟩
                  case round =>
                    clear S9
                    obtain ⟨t, V2, X2, ht, rfl, rfl, rfl, hx1, hS⟩ := hrel
                    have HX2 := Lib.hid hx1; have HS2 := Lib.hid hS
                    clear hx1 hS
                    obtain ⟨wk, rfl⟩ : ∃ x : World, x = wr := ⟨_, rfl⟩
                    by_cases hlq : t < nq
                    · obtain ⟨Mu1, hJ1, _⟩ := rs_facts HS2.out
                      obtain ⟨gq, hOB, _, _, hgq, hcells⟩ := hJ1.2 (by omega)
                      subst hOB
                      obtain ⟨pv, hc0, hpv⟩ := hcells t hlq
                      obtain ⟨G, pc2, hpv2, hpv3⟩ := hpv
                      obtain ⟨lG, hlG⟩ : ∃ x, x = (ls.getD t []).length := ⟨_, rfl⟩
                      rw [← hlG] at hpv2
                      subst hpv2
                      obtain ⟨x0, hx0⟩ : ∃ x, x = (X2 0).length := ⟨_, rfl⟩
                      obtain ⟨x1, hx1⟩ : ∃ x, x = (X2 1).length := ⟨_, rfl⟩
                      have hx0b : x0 ≤ 1000 := by rw [hx0, hJ1.1.2.2.1, List.length_append, List.length_take, ← HNP.out]; omega
                      have hx1b : x1 ≤ 1000 := by rw [hx1, HX2.out, List.length_map, List.length_append, List.length_replicate, HPK.out.2.2.1, ← HNP.out]; omega
                      have HX0 := Lib.hid hx0; have HX1b := Lib.hid hx1
                      have S1 : Hid (Sep w 7 (RunO P Q (updE E k (outE (E k))) (updE R k (outR (R k))) V2 X2 (fun L Mu w => (RunJ P Q ge gm X2 (pk ++ ls.take t) L Mu w ∧ Packs L Mu w (some ⟨gq, 0, none⟩) nq ls) ∧ PkV L Mu w (.slice (some ⟨G, 0, none⟩) lG pc2) (ls.getD t []))) wk) := Lib.hid (rs_imp HS2.out (((RunJ.stab _ _ _ _ _ _).and (Packs.stab _ _ _)).and (PkV.stab _ _)) (fun Mu h => ⟨h, packs_one h.2 hlq hc0⟩))
                      have hk3 := HK3.out
                      clear hJ1 hcells hpv3 hx0 hx1 hlG HS2
                      go_wp2_with (go_loud (first
                        | (at_builtin; refine wpList_rs_app (S1.out.ext ((Ext.refl wk).alloc _)) (k := 0) (by decide) rfl rfl (.tmp 204) (.tmp 209) 28 rfl i0 (.slice none 0 0) 24 Try.underlying28 hi hz0 hz1 hz2 rfl x0 rfl HX0.out.symm ⟨wk.heap.size, 0, none⟩ 1 (.slice (some ⟨G, 0, none⟩) lG pc2) rfl (cell_new0 _ _ _) rfl (by omega) (by decide) ?_; intro A7 c7 w7 hS7; have S7 := Lib.hid hS7; clear hS7)
                        | (at_builtin; refine wpList_rs_app (S7.out.ext ((Ext.refl w7).alloc _)) (k := 1) (by decide) rfl rfl (.tmp 211) (.tmp 214) 23 rfl j0 (.int .i64 0) 8 Try.underlying23 hj hy0 hy1 hy2 rfl x1 rfl HX1b.out.symm ⟨w7.heap.size, 0, none⟩ 1 (.int .i64 (k3 : Int)) rfl (cell_new0 _ _ _) rfl (by omega) (by decide) ?_; intro A9 c9 w9 hS9; have S9 := Lib.hid hS9; clear hS9)))
                      clear hk3
                      go_roundw
                      case rel =>
                        obtain ⟨V', X', e1, e2, e3, e4⟩ := run_put HX2.out (by rw [HNO.out]; exact hlq) S9.out
                        exact ⟨t + 1, V', X', by omega, by go_num, e1, e2, e3, e4⟩
                      case measure => simp [intOf]; omega
                    · obtain rfl : t = nq := by omega
                      go_wp2_with fail
                      go_meet
                      case rel =>
                        have h1 := HS2.out
                        rw [HLS.out] at h1
                        exact run_outs HR.out HPK.out (by omega) hk2 (winE_bd window k).2 (by rw [← HLS.out]; exact HNO.out) (by rw [← HK3E.out]; exact HX2.out) h1
              · obtain rfl : b2 = false := by rw [HB2.out]; exact decide_eq_false cB
                as_aux_lemma =>
                  by_cases hp0 : np = 0
                  · have q5 : ((np : Int) == 0) = true := by rw [hp0]; rfl
                    clear hp0
                    go_wp2_with fail
                    go_roundw
                    case rel => exact ⟨m + 1, by omega, by go_num, run_rel HV0.out HV1.out (run_late HR.out HPK.out HX1.out HS.out)⟩
                    case measure => simp [intOf]; omega
                  · have q5 : ((np : Int) == 0) = false := by rw [beq_eq_false_iff_ne]; omega
                    have hnp0 : 0 < np := by omega
                    go_upto_region 14 with fail
                    go_cut [18] from 70 to 79 (fun s18 wx => wo = wx ∧ ∃ jj : Nat, s18 = .int .i64 jj ∧ jj < np)
                    case first =>
                      by_cases h20 : np ≤ 20
                      · have h20b : ¬ (20 : Int) < np := by omega
                        have hnpz : ¬ (np : Int) = 0 := by omega
                        obtain ⟨r, hr, hrn⟩ : ∃ r : Nat, (nn : Int) / 2 % (np : Int) = r ∧ r < np := by
                          have h1 := Int.emod_nonneg ((nn : Int) / 2) hnpz
                          have h2 := Int.emod_lt_of_pos ((nn : Int) / 2) (show (0 : Int) < np by omega)
                          exact ⟨((nn : Int) / 2 % (np : Int)).toNat, by omega, by omega⟩
                        go_wp2_with fail
                        all_goals
                          go_meet
                          case rel => exact ⟨rfl, np - 1 - r, (by first | (rw [hr]; congr 1; omega) | (congr 1; omega)), by omega⟩
                      · have h20b : (20 : Int) < np := by omega
                        obtain ⟨r, hr, hrn⟩ : ∃ r : Nat, (nn : Int) / 2 % 20 = r ∧ r < 20 := ⟨((nn : Int) / 2 % 20).toNat, by omega, by omega⟩
                        go_wp2_with fail
                        all_goals
                          go_meet
                          case rel => exact ⟨rfl, np - 1 - r, (by first | (rw [hr]; congr 1; omega) | (congr 1; omega)), by omega⟩
                    case rest =>
                      obtain ⟨rfl, jj, rfl, hjn⟩ := hcut
                      have hjpk : jj < pk.length := by rw [← HNP.out]; exact hjn
                      obtain ⟨Mu1, hJ1, _⟩ := rs_facts HS.out
                      obtain ⟨gt, htA⟩ := rs_addr HS.out (k := 1) (by decide) HV1.out hnp0
                      subst htA
                      obtain ⟨gp, hpA⟩ := rs_addr HS.out (k := 0) (by decide) HV0.out hnp0
                      subst hpA
                      obtain ⟨t, ht⟩ : ∃ x, x = tos.getD jj 0 := ⟨_, rfl⟩
                      have ht2 : t < 2 := by rw [ht, List.getD_eq_getElem?_getD, List.getElem?_eq_getElem (by rw [HPK.out.2.2.1]; exact hjpk)]; exact HPK.out.2.2.2 _ (List.getElem_mem _)
                      have HTO : Hid (∀ (E' : Nat → EndS) (R' : Nat → RefS) (J' : LawI) (W : World), Sep w 7 (RunO P Q E' R' V X J') W → W.cell? ⟨gt, jj, none⟩ = some (.int .i64 (t : Int))) := Lib.hid (fun E' R' J' W hW => by
                        rw [rs_cell hW (k := 1) (by decide) HV1.out HX1L.out hjn, HX1.out, List.getElem?_map, ht, List.getD_eq_getElem?_getD, List.getElem?_eq_getElem (by rw [HPK.out.2.2.1]; exact hjpk)]; rfl)
                      obtain ⟨G, cp, hpv, hcp1, hcp2, _, _, hGw, hRp⟩ := hJ1.2.2.2 jj hjpk
                      obtain ⟨pkt, hpkt⟩ : ∃ x, x = pk.getD jj [] := ⟨_, rfl⟩
                      rw [← hpkt] at hpv hcp1 hRp
                      obtain ⟨lp, hlp⟩ : ∃ x, x = pkt.length := ⟨_, rfl⟩
                      rw [← hlp] at hpv hcp1 hRp
                      have HPC : Hid (∀ W, Ext wo W → W.cell? ⟨gp, jj, none⟩ = some (.slice (some ⟨G, 0, none⟩) lp cp)) := Lib.hid (fun W hW => by
                        have h := rs_cell (HS.out.ext hW) (k := 0) (by decide) HV0.out HX0.out hjn
                        rw [h, ← hpv, List.getD_eq_getElem?_getD, List.getElem?_eq_getElem (by rw [HX0.out]; exact hjn)]; rfl)
                      have HRP : Hid (∀ W, Ext wo W → Rd W W.heap.size (some ⟨G, 0, none⟩) lp (u8s pkt)) := Lib.hid (fun W hW => hRp.ext' hW)
                      obtain ⟨hpb, hp12, hp100⟩ := HPK.out.1 jj hjpk
                      rw [← hpkt] at hpb hp12 hp100
                      rw [← hlp] at hp12 hp100
                      have HPB := Lib.hid hpb
                      have HTK : Hid (pkt.take lp = pkt) := Lib.hid (List.take_of_length_le (by omega))
                      clear hJ1 hpv hRp hpkt hlp ht hpb
                      go_upto_region 15 with fail
                      refine wp_region_flowF 10 ?F15 (fun us => ?_) (by kernel_rfl) (by kernel_rfl) (fun a b => Ext a b) Ext.refl (fun h1 h2 => h1.next h2) (fun i v W => match i with
                        | 0 => v = .slice (some ⟨gp, 0, none⟩) np pc
                        | 1 => v = .int .i64 jj
                        | 2 => v = .pointer (some ⟨gp, jj, none⟩)
                        | 3 => v = .slice (some ⟨G, 0, none⟩) lp cp
                        | 4 => v = .slice (some ⟨gp, 0, none⟩) np pc
                        | 5 => v = .int .i64 jj
                        | 6 => v = .pointer (some ⟨gp, jj, none⟩)
                        | 7 => v = .slice (some ⟨G, 0, none⟩) lp cp
                        | 8 => v = .int .i64 lp
                        | 9 => ∃ g c, v = .slice (some ⟨g, 0, none⟩) lp c ∧ (lp ≤ c ∧ c ≤ 9223372036854775807) ∧ wo.heap.size ≤ g ∧ W.ownsRow wo.heap.size 5 1 (.slice (some ⟨g, 0, none⟩) lp c) lp (u8s pkt)
                        | _ => True) ?_ ?_
                      case refine_1 =>
                        simp only [List.take_succ_cons, List.take_zero, flowAct, Nat.zero_add, Nat.reduceAdd, Act.put, List.setIfInBounds_toArray, List.set_cons_succ, List.set_cons_zero]
                        rfl
                      · simp only [List.take_succ_cons, List.take_zero, flowStepsF]
                        refine ⟨?_, ?_, ?_, ?_, ?_, ?_, ?_, ?_, ?_, ?_, trivial⟩
                        · intro us W K hE hd hK
                          dsimp only at hK ⊢
                          have HK := Lib.hid hK; have HE := Lib.hid hE
                          clear hK hd hE
                          go_wp2_with fail
                          exact K_at (HK.out (.slice (some ⟨gp, 0, none⟩) np pc) W (fun _ _ => rfl) (Ext.refl W)) (by kernel_rfl)
                        · intro us W K hE hd hK
                          dsimp only at hK ⊢
                          have HK := Lib.hid hK; have HE := Lib.hid hE
                          clear hK hd hE
                          go_wp2_with fail
                          exact K_at (HK.out (.int .i64 jj) W (fun _ _ => rfl) (Ext.refl W)) (by kernel_rfl)
                        · intro us W K hE hd hK
                          have d0 := hd 0 (by kernel_rfl)
                          have d1 := hd 1 (by kernel_rfl)
                          dsimp only at hK ⊢
                          rw [d0, d1] at hK ⊢
                          have HK := Lib.hid hK; have HE := Lib.hid hE
                          clear hK hd hE d0 d1
                          go_wp2_with fail
                          exact K_at (HK.out (.pointer (some ⟨gp, jj, none⟩)) W (fun _ _ => rfl) (Ext.refl W)) (by kernel_rfl)
                        · intro us W K hE hd hK
                          have d2 := hd 2 (by kernel_rfl)
                          have c0 := HPC.out W (ext_undrew hE)
                          dsimp only at hK ⊢
                          rw [d2] at hK ⊢
                          have HK := Lib.hid hK; have HE := Lib.hid hE
                          clear hK hd hE d2
                          go_wp2_with fail
                          exact K_at (HK.out (.slice (some ⟨G, 0, none⟩) lp cp) W (fun _ _ => rfl) (Ext.refl W)) (by kernel_rfl)
                        · intro us W K hE hd hK
                          dsimp only at hK ⊢
                          have HK := Lib.hid hK; have HE := Lib.hid hE
                          clear hK hd hE
                          go_wp2_with fail
                          exact K_at (HK.out (.slice (some ⟨gp, 0, none⟩) np pc) W (fun _ _ => rfl) (Ext.refl W)) (by kernel_rfl)
                        · intro us W K hE hd hK
                          dsimp only at hK ⊢
                          have HK := Lib.hid hK; have HE := Lib.hid hE
                          clear hK hd hE
                          go_wp2_with fail
                          exact K_at (HK.out (.int .i64 jj) W (fun _ _ => rfl) (Ext.refl W)) (by kernel_rfl)
                        · intro us W K hE hd hK
                          have d4 := hd 4 (by kernel_rfl)
                          have d5 := hd 5 (by kernel_rfl)
                          dsimp only at hK ⊢
                          rw [d4, d5] at hK ⊢
                          have HK := Lib.hid hK; have HE := Lib.hid hE
                          clear hK hd hE d4 d5
                          go_wp2_with fail
                          exact K_at (HK.out (.pointer (some ⟨gp, jj, none⟩)) W (fun _ _ => rfl) (Ext.refl W)) (by kernel_rfl)
                        · intro us W K hE hd hK
                          have d6 := hd 6 (by kernel_rfl)
                          have c0 := HPC.out W (ext_undrew hE)
                          dsimp only at hK ⊢
                          rw [d6] at hK ⊢
                          have HK := Lib.hid hK; have HE := Lib.hid hE
                          clear hK hd hE d6
                          go_wp2_with fail
                          exact K_at (HK.out (.slice (some ⟨G, 0, none⟩) lp cp) W (fun _ _ => rfl) (Ext.refl W)) (by kernel_rfl)
                        · intro us W K hE hd hK
                          have d7 := hd 7 (by kernel_rfl)
                          dsimp only at hK ⊢
                          rw [d7] at hK ⊢
                          have HK := Lib.hid hK; have HE := Lib.hid hE
                          clear hK hd hE d7
                          go_wp2_with fail
                          exact K_at (HK.out (.int .i64 lp) W (fun _ _ => rfl) (Ext.refl W)) (by kernel_rfl)
                        · intro us W K hE hd hK
                          have d3 := hd 3 (by kernel_rfl)
                          have d8 := hd 8 (by kernel_rfl)
                          have HE2 : Hid (Ext wo W) := Lib.hid (ext_undrew hE)
                          dsimp only at hK ⊢
                          rw [d3, d8] at hK ⊢
                          have HK := Lib.hid hK; have HE := Lib.hid hE
                          clear hK hd hE d3 d8
                          go_wp2_with (go_loud (go_at_call 16; (with_reducible refine (few_row pkt (some ⟨G, 0, none⟩) lp cp (lp : Int) lp lp W (HRP.out W HE2.out) hcp1 hcp2 rfl (by omega) (by omega) pkt HTK.out.symm (by omega)).mono ?_); rintro e w10 ⟨g19, c19, rfl, ⟨hc1, hc2⟩, ⟨hg1, hg2⟩, ho19, hE10⟩))
                          exact K_at (HK.out (.slice (some ⟨g19, 0, none⟩) lp c19) w10 (fun W2 h2 => ⟨g19, c19, rfl, ⟨hc1, hc2⟩, Nat.le_trans HE2.out.size hg1, own_ext h2 (own_mono ho19 HE2.out.size)⟩) hE10) (by kernel_rfl)
                      · intro us W hE hd
                        try dsimp only
                        obtain ⟨g1, c1, d9, ⟨hc1, hc2⟩, hg1, ho1⟩ := hd 9 (by decide)
                        simp only [List.drop_succ_cons, List.drop_zero]
                        rw [d9]
                        have E15 : Hid (Ext wo W) := Lib.hid (ext_undrew hE)
                        have HO1 := Lib.hid ho1
                        clear hE hd d9 ho1 HRP HPC HTK q5
                        go_upto_if 92 with fail
                        have B1 : Hid (BufSt 12 wo (.slice (some ⟨g1, 0, none⟩) lp c1) W) := Lib.hid ⟨g1, lp, c1, pkt, rfl, hc1, hc2, hg1, HPB.out, hp12, hp100, HO1.out, E15.out⟩
                        generalize ((nn : Int) % 13 == 0) = b13
                        go_cut [19] from 93 to 101 (fun s19 wx => BufSt 12 wo s19 wx)
                        case first =>
                          cases b13 with
                          | true =>
                            have hlz : ¬ (lp : Int) = 0 := by omega
                            obtain ⟨r, hr, hrn⟩ : ∃ r : Nat, (nn : Int) / 13 % (lp : Int) = r ∧ r < lp := by
                              have h1 := Int.emod_nonneg ((nn : Int) / 13) hlz
                              have h2 := Int.emod_lt_of_pos ((nn : Int) / 13) (show (0 : Int) < lp by omega)
                              exact ⟨((nn : Int) / 13 % (lp : Int)).toNat, by omega, by omega⟩
                            obtain ⟨hcr, hfr⟩ := own_cell HO1.out r hrn
                            have hcr2 := hcr
                            go_wp2_with fail
                            go_meet
                            case rel => exact ⟨g1, lp, c1, _, rfl, hc1, hc2, hg1, byt_set HPB.out r (by omega), hp12, hp100, own_set HO1.out r _, E15.out.setOwn hg1 r _⟩
                          | false =>
                            go_wp2_with fail
                            go_meet
                            case rel => exact B1.out
                        case rest =>
                          clear B1 HO1 E15 hc1 hc2 hg1 HPB hp12 hp100
                          obtain ⟨g2, n2, c2, x2, rfl, hc1, hc2, hg1, hb2, hn12, hn100, ho2, hE2⟩ := hcut
                          obtain ⟨w16, rfl⟩ : ∃ y : World, y = wc := ⟨_, rfl⟩
                          have HO2 := Lib.hid ho2; have E16 := Lib.hid hE2; have HB2x := Lib.hid hb2
                          have B2 : Hid (BufSt 12 wo (.slice (some ⟨g2, 0, none⟩) n2 c2) w16) := Lib.hid ⟨g2, n2, c2, x2, rfl, hc1, hc2, hg1, hb2, hn12, hn100, ho2, hE2⟩
                          clear ho2 hE2 hb2
                          go_upto_if 104 with fail
                          generalize ((nn : Int) % 17 == 0) = b17
                          go_cut [19] from 105 to 119 (fun s19 wx => BufSt 12 wo s19 wx)
                          case first =>
                            cases b17 with
                            | true =>
                              obtain ⟨r3, hr3, hr3n⟩ : ∃ r : Nat, (nn : Int) % 3 = r ∧ r < 3 := ⟨nn % 3, by omega, by omega⟩
                              obtain ⟨sq, hsq, hsq0, hsq1⟩ : ∃ s : Int, (nn : Int) / 17 % 30 = s ∧ 0 ≤ s ∧ s < 30 := ⟨_, rfl, by omega, by omega⟩
                              obtain ⟨sa, hsa, hsa0, hsa1⟩ : ∃ s : Int, (nn : Int) / 510 % 9 = s ∧ 0 ≤ s ∧ s < 9 := ⟨_, rfl, by omega, by omega⟩
                              have HL3 : Hid (x2.length = n2) := Lib.hid (by simpa [u8s] using HO2.out.1)
                              have HR3 : Hid (Rd w16 w16.heap.size (some ⟨g2, 0, none⟩) r3 (u8s (x2.take r3))) := Lib.hid (rd_takeL (rd_own HO2.out) (by omega))
                              obtain ⟨PX, hPX⟩ : ∃ y, y = packL sq (sa - 1) (x2.take r3) := ⟨_, rfl⟩
                              obtain ⟨SX, hSX⟩ : ∃ y, y = sealL key PX := ⟨_, rfl⟩
                              have hsp := seal_pack key sq (sa - 1) (by omega) (by omega) (by omega) (by omega) (x2.take r3) (by rw [List.length_take]; omega)
                              have hpb := packL_byt sq (sa - 1) (by omega) (by omega) (by omega) (by omega) (x2.take r3) (by rw [List.length_take]; omega)
                              rw [← hPX] at hsp hpb
                              rw [← hSX] at hsp
                              have HSP := Lib.hid hsp; have HPBx := Lib.hid hpb; have HPX := Lib.hid hPX; have HSX := Lib.hid hSX
                              obtain ⟨pl, hpl⟩ : ∃ y, y = PX.length := ⟨_, rfl⟩
                              have hplb : pl + 8 ≤ 100 ∧ 12 ≤ pl + 8 := by
                                have h1 := HSP.out.2
                                rw [hSX, sealL_length] at h1
                                omega
                              have HPLx := Lib.hid hpl
                              clear hsp hpb hPX hSX hpl
                              go_wp2_with (go_loud (first
                                | (go_at_call 18; (with_reducible refine (rbytesR sq (sa - 1) (by omega) (by omega) (by omega) (by omega) (x2.take r3) (some ⟨g2, 0, none⟩) r3 c2 w16 HR3.out (byt_take HB2x.out r3) (by omega) PX HPX.out pl HPLx.out).mono ?_); rintro e w17 ⟨g17, c17, rfl, ⟨hd1, hd2⟩, ⟨he1, he2⟩, ho17, hE17⟩; have HO17 := Lib.hid ho17; have E17 := Lib.hid hE17; clear ho17 hE17)
                                | (go_at_call 17; (with_reducible refine (rsealR key k0 k1 PX (some ⟨g17, 0, none⟩) pl c17 w17 (rd_own HO17.out) HPBx.out (by omega) SX HSX.out (pl + 8) rfl).mono ?_); rintro e w18 ⟨g18, c18, rfl, ⟨hd3, hd4⟩, ⟨he3, he4⟩, ho18, hE18⟩; have HO18 := Lib.hid ho18; have E18 := Lib.hid hE18; clear ho18 hE18)))
                              go_meet
                              case rel =>
                                have hs1 := E16.out.size; have hs2 := E17.out.size
                                exact ⟨g18, pl + 8, c18, SX, rfl, hd3, hd4, by omega, HSP.out.1, hplb.2, hplb.1, own_mono HO18.out (by omega), (E16.out.next E17.out).next E18.out⟩
                            | false =>
                              go_wp2_with fail
                              go_meet
                              case rel => exact B2.out
                          case rest =>
                            clear B2 HO2 E16 HB2x hc1 hc2 hg1 hn12 hn100
                            obtain ⟨g3, n3, c3, x3, rfl, hc1, hc2, hg1, hb3, hn12, hn100, ho3, hE3⟩ := hcut
                            obtain ⟨w19, rfl⟩ : ∃ y : World, y = wc := ⟨_, rfl⟩
                            have HO3 := Lib.hid ho3; have E19 := Lib.hid hE3; have HB3 := Lib.hid hb3
                            clear ho3 hE3 hb3
                            go_upto_if 122 with fail
                            generalize ((nn : Int) % 19 == 0) = b19
                            go_cut [19] from 123 to 126 (fun s19 wx => w19 = wx ∧ ∃ (n4 : Nat) (x4 : List Int), s19 = .slice (some ⟨g3, 0, none⟩) n4 c3 ∧ n4 ≤ c3 ∧ Byt x4 ∧ n4 ≤ 100 ∧ w19.ownsRow wo.heap.size 5 1 (.slice (some ⟨g3, 0, none⟩) n4 c3) n4 (u8s x4))
                            case first =>
                              cases b19 with
                              | true =>
                                obtain ⟨r3, hr3, hr3n⟩ : ∃ r : Nat, (nn : Int) % 12 = r ∧ r < 12 := ⟨nn % 12, by omega, by omega⟩
                                go_wp2_with fail
                                go_meet
                                case rel => exact ⟨rfl, r3, _, rfl, by omega, byt_take HB3.out r3, by omega, own_take HO3.out (by omega)⟩
                              | false =>
                                go_wp2_with fail
                                go_meet
                                case rel => exact ⟨rfl, n3, x3, rfl, hc1, HB3.out, hn100, HO3.out⟩
                            case rest =>
                              clear HO3 HB3 hc1 hn12 hn100
                              obtain ⟨rfl, n4, x4, rfl, hc1, hb4, hn100, ho4⟩ := hcut
                              have HO4 := Lib.hid ho4; have HB4 := Lib.hid hb4
                              clear ho4 hb4
                              have hJ := Lib.hid (RunJ.stab P Q ge gm X pk)
                              have hJ4 : Hid (StabI (fun L Mu w => RunJ P Q ge gm X pk L Mu w ∧ ImRd Mu w (some ⟨g3, 0, none⟩) n4 (u8s x4))) := Lib.hid (hJ.out.and (ImRd.stab _ _ _))
                              have S4 : Hid (Sep w 7 (RunO P Q E R V X (fun L Mu w => RunJ P Q ge gm X pk L Mu w ∧ ImRd Mu w (some ⟨g3, 0, none⟩) n4 (u8s x4))) w19) := Lib.hid (rs_new HS.out E19.out hJ4.out (fun Mu hMu hj => ⟨hj, by
                                have hr := rd_own HO4.out
                                refine ⟨hr.1, fun h0 => ?_⟩
                                obtain ⟨b, oo, hA, hb, hcc⟩ := hr.2 h0
                                refine ⟨b, oo, hA, hb, fun h => ?_, hcc⟩
                                injection hA with hA
                                injection hA with hA _
                                have := hMu b h
                                omega⟩))
                              have HRD : Hid (∀ (E' : Nat → EndS) (R' : Nat → RefS) (J' : LawI) (W : World), (∀ Mu, J' (fun _ => True) Mu W → ImRd Mu W (some ⟨g3, 0, none⟩) n4 (u8s x4)) → Sep w 7 (RunO P Q E' R' V X J') W → Rd W W.heap.size (some ⟨g3, 0, none⟩) n4 (u8s x4)) := Lib.hid (fun E' R' J' W h hW => by
                                obtain ⟨Mu, h1, _⟩ := rs_facts hW
                                exact (h Mu h1).rd)
                              obtain ⟨xs, r, E4, hin, hrin, hR4⟩ := (HR.out t ht2).in x4
                              obtain ⟨R4, hR4e⟩ : ∃ y, y = (inR (R t) x4).2 := ⟨_, rfl⟩
                              have HRI : Hid (inR (R t) x4 = ((xs, r), R4)) := Lib.hid (by rw [hR4e, ← hrin])
                              rw [← hR4e] at hR4
                              have HIN := Lib.hid hin; have HR4 := Lib.hid hR4
                              have HFA := Lib.hid ((HR.out t ht2).facts (by omega))
                              have ct := HTO.out _ _ _ _ S4.out
                              obtain ⟨ce, _⟩ := rs_cels S4.out (fun Mu h => h.1) ht2
                              have HRX := Lib.hid (HRD.out _ _ _ _ (fun Mu h => h.2) S4.out)
                              clear hin hrin hR4 hR4e HO4 HS
                              go_upto_region 23 with (go_loud (go_at_call 19; (with_reducible refine (rs_in S4.out hJ4.out ht2 x4 (some ⟨g3, 0, none⟩) n4 c3 HRX.out HB4.out (by omega) hc1 hc2 HFA.out.2.1.1 HFA.out.2.1.2.1 HFA.out.2.1.2.2 xs r E4 HIN.out).mono ?_); rintro e w20 ⟨OA, oc, jb, rfl, hoc1, hoc2, hjb, hS20⟩; have S20 := Lib.hid hS20; have HJB := Lib.hid hjb; clear hS20 hjb))
                              clear ct ce HRX
                              have ct := HTO.out _ _ _ _ S20.out
                              obtain ⟨_, cm⟩ := rs_cels S20.out (fun Mu h => h.1.1) ht2
                              have HRX := Lib.hid (HRD.out _ _ _ _ (fun Mu h => h.1.2) S20.out)
                              go_upto_region 24 with (go_loud (go_at_call 20; (with_reducible refine (rs_rin S20.out (hJ4.out.and (Mess.stab _ _ _)) ht2 x4 (some ⟨g3, 0, none⟩) n4 c3 HRX.out HB4.out (by omega) hc1 hc2 HFA.out.2.2.2.1.1 HFA.out.2.2.2.1.2.1 HFA.out.2.2.2.1.2.2 xs r R4 HRI.out).mono ?_); rintro e w21 ⟨OB, od, jc, rfl, hod1, hod2, hjc, hS21⟩; have S21 := Lib.hid hS21; have HJC := Lib.hid hjc; clear hS21 hjc))
                              obtain rfl : jc = jb := by rw [← HJB.out, ← HJC.out]
                              have HSL : Hid (Calls Try.prog 15 #[.slice OA jc oc, .slice OB jc od] w21 fun e w' => e = .returned (.bool true) ∧ Ext w21 w') := Lib.hid (by
                                obtain ⟨Mu, hJ1, _⟩ := rs_facts S21.out
                                exact sameLists_any xs OA OB jc oc od w21 (LLs.of_mess hJ1.1.2 HJB.out) (LLs.of_mess hJ1.2 HJB.out) hoc1 hoc2 hod1 hod2)
                              clear ct cm HRX S20 S4 HTO HRD
                              have hrr : ((r : Int) != r) = false := by simp
                              go_wp2_with (go_loud (go_at_call 15; (with_reducible refine HSL.out.mono ?_); rintro e w22 ⟨rfl, hE22⟩; have S22 := Lib.hid (S21.out.ext hE22); clear hE22))
                              go_meet
                              case rel => exact run_rel HV0.out HV1.out (run_got HPK.out HX1.out (runr_upd HR.out HR4.out) (fun Mu h => h.1.1.1) S22.out)
      case rest =>
        have HC := Lib.hid hcut
        clear hcut
        clear HS HR HPK HV0 HV1 HX0 HX1 HX1L HNP HGE
        obtain ⟨E2, R2, pk2, tos2, V2, X2, h9, h10, hRR, hPK, hX1, hS2⟩ := HC.out
        clear h9 h10 hPK hX1
        have HR2 := Lib.hid hRR; have HS2 := Lib.hid hS2
        clear hRR hS2
        go_wp2_with fail
        go_loopw [24] (fun j wx => ∃ q : Nat, q ≤ 2 ∧ j = .int .i64 q ∧ Ext wc wx) (fun j _ => 2 - (intOf j).toNat)
        case atStart => exact ⟨0, by omega, rfl, Ext.refl _⟩
        case round =>
          obtain ⟨q, hq, rfl, hE⟩ := hrel
          have HEo := Lib.hid hE
          clear hE
          obtain ⟨wk, rfl⟩ : ∃ x : World, x = wr := ⟨_, rfl⟩
          by_cases hq2 : q < 2
          · have HSk := Lib.hid (HS2.out.ext HEo.out)
            obtain ⟨_, _, ⟨hs1, _⟩, _, hwq, hfq⟩ := (HR2.out q hq2).facts (show m + 1 ≤ 60 by omega)
            obtain ⟨hi0, hi1⟩ : 0 ≤ (R2 q).acked ∧ (R2 q).acked ≤ (R2 q).sent.length := ⟨(HR2.out q hq2).i.a0, (HR2.out q hq2).i.a1⟩
            obtain ⟨wl, hwl⟩ : ∃ x, x = (E2 q).waiting.length := ⟨_, rfl⟩
            obtain ⟨sl, hsl⟩ : ∃ x, x = (R2 q).sent.length := ⟨_, rfl⟩
            obtain ⟨ac, hac⟩ : ∃ x, x = (R2 q).acked := ⟨_, rfl⟩
            obtain ⟨fg, hfg⟩ : ∃ x, x = (R2 q).forged := ⟨_, rfl⟩
            rw [← hwl, ← hsl, ← hac] at hwq
            rw [← hfg] at hfq
            rw [← hac] at hi0 hi1
            rw [← hsl] at hi1 hs1
            have HWL := Lib.hid hwl; have HWQ := Lib.hid hwq.symm; have HFQ := Lib.hid hfq
            have HCE : Hid (∀ W, Ext wk W → W.cell? ⟨ge, q, none⟩ = some (.pointer (some ⟨P q, 0, none⟩)) ∧ W.cell? ⟨gm, q, none⟩ = some (.pointer (some ⟨Q q, 0, none⟩))) := Lib.hid (fun W hW => rs_cels (HSk.out.ext hW) (fun Mu h => h) hq2)
            obtain ⟨SA, sc, hc2, _, _⟩ := rs_ref HSk.out hq2
            have HCR : Hid (∀ W, Ext wk W → W.cell? ⟨Q q, 2, none⟩ = some (.slice SA sl sc) ∧ W.cell? ⟨Q q, 3, none⟩ = some (.int .i64 ac) ∧ W.cell? ⟨Q q, 7, none⟩ = some (.int .i64 fg)) := Lib.hid (fun W hW => by
              obtain ⟨SA', sc', g2, g3, g7⟩ := rs_ref (HSk.out.ext hW) hq2
              have hlt : Q q < wk.heap.size := by
                obtain ⟨Mu, Ft, S⟩ := HSk.out
                have ho := S.o (3 + q) (by omega)
                rw [run_ref hq2] at ho
                obtain ⟨SV, HV, vs, hs, I, _⟩ := ho
                exact I.blk.lt
              refine ⟨?_, by rw [hac]; exact g3, by rw [hfg]; exact g7⟩
              rw [hsl]
              exact (hW.cell (p := ⟨Q q, 2, none⟩) hlt).trans hc2)
            clear hwl hsl hac hfg hwq hfq hc2
            go_upto_region 45 with fail
            generalize decide ((q : Int) < 2) = bq
            refine wp_region_flowF 37 ?F45 (fun us => ?_) (by kernel_rfl) (by kernel_rfl) (fun a b => Ext a b) Ext.refl (fun h1 h2 => h1.next h2) (fun i v W => match i with
              | 0 => v = .slice (some ⟨ge, 0, none⟩) 2 2
              | 1 => v = .int .i64 q
              | 2 => v = .pointer (some ⟨ge, q, none⟩)
              | 3 => v = .pointer (some ⟨P q, 0, none⟩)
              | 4 => v = .int .i64 wl
              | 5 => v = .slice (some ⟨gm, 0, none⟩) 2 2
              | 6 => v = .int .i64 q
              | 7 => v = .pointer (some ⟨gm, q, none⟩)
              | 8 => v = .pointer (some ⟨Q q, 0, none⟩)
              | 9 => v = .pointer (some ⟨Q q, 0, none⟩)
              | 10 => v = .pointer (some ⟨Q q, 2, none⟩)
              | 11 => v = .slice SA sl sc
              | 12 => v = .int .i64 sl
              | 13 => v = .slice (some ⟨gm, 0, none⟩) 2 2
              | 14 => v = .int .i64 q
              | 15 => v = .pointer (some ⟨gm, q, none⟩)
              | 16 => v = .pointer (some ⟨Q q, 0, none⟩)
              | 17 => v = .pointer (some ⟨Q q, 0, none⟩)
              | 18 => v = .pointer (some ⟨Q q, 3, none⟩)
              | 19 => v = .int .i64 ac
              | 20 => v = .int .i64 (wl : Int)
              | 21 => v = .bool false
              | 22 => v = .bool false
              | 23 => v = .slice (some ⟨ge, 0, none⟩) 2 2
              | 24 => v = .int .i64 q
              | 25 => v = .pointer (some ⟨ge, q, none⟩)
              | 26 => v = .pointer (some ⟨P q, 0, none⟩)
              | 27 => v = .int .i64 fg
              | 28 => v = .slice (some ⟨gm, 0, none⟩) 2 2
              | 29 => v = .int .i64 q
              | 30 => v = .pointer (some ⟨gm, q, none⟩)
              | 31 => v = .pointer (some ⟨Q q, 0, none⟩)
              | 32 => v = .pointer (some ⟨Q q, 0, none⟩)
              | 33 => v = .pointer (some ⟨Q q, 7, none⟩)
              | 34 => v = .int .i64 fg
              | 35 => v = .bool false
              | 36 => v = .bool false
              | _ => True) ?_ ?_
            case refine_1 =>
              simp only [List.take_succ_cons, List.take_zero, flowAct, Nat.zero_add, Nat.reduceAdd, Act.put, List.setIfInBounds_toArray, List.set_cons_succ, List.set_cons_zero]
              rfl
            · simp only [List.take_succ_cons, List.take_zero, flowStepsF]
              refine ⟨?_, ?_, ?_, ?_, ?_, ?_, ?_, ?_, ?_, ?_, ?_, ?_, ?_, ?_, ?_, ?_, ?_, ?_, ?_, ?_, ?_, ?_, ?_, ?_, ?_, ?_, ?_, ?_, ?_, ?_, ?_, ?_, ?_, ?_, ?_, ?_, ?_, trivial⟩
              · intro us W K hE hd hK
                dsimp only at hK ⊢
                have HK := Lib.hid hK; have HE := Lib.hid hE
                clear hK hd hE
                go_wp2_with fail
                exact K_at (HK.out (.slice (some ⟨ge, 0, none⟩) 2 2) W (fun _ _ => rfl) (Ext.refl W)) (by kernel_rfl)
              · intro us W K hE hd hK
                dsimp only at hK ⊢
                have HK := Lib.hid hK; have HE := Lib.hid hE
                clear hK hd hE
                go_wp2_with fail
                exact K_at (HK.out (.int .i64 q) W (fun _ _ => rfl) (Ext.refl W)) (by kernel_rfl)
              · intro us W K hE hd hK
                have d0 := hd 0 (by kernel_rfl)
                have d1 := hd 1 (by kernel_rfl)
                dsimp only at hK ⊢
                rw [d0, d1] at hK ⊢
                have HK := Lib.hid hK; have HE := Lib.hid hE
                clear hK hd hE d0 d1
                go_wp2_with fail
                exact K_at (HK.out (.pointer (some ⟨ge, q, none⟩)) W (fun _ _ => rfl) (Ext.refl W)) (by kernel_rfl)
              · intro us W K hE hd hK
                have d2 := hd 2 (by kernel_rfl)
                have c0 := (HCE.out W (ext_undrew hE)).1
                dsimp only at hK ⊢
                rw [d2] at hK ⊢
                have HK := Lib.hid hK; have HE := Lib.hid hE
                clear hK hd hE d2
                go_wp2_with fail
                exact K_at (HK.out (.pointer (some ⟨P q, 0, none⟩)) W (fun _ _ => rfl) (Ext.refl W)) (by kernel_rfl)
              · intro us W K hE hd hK
                have d3 := hd 3 (by kernel_rfl)
                have HSW := Lib.hid (HSk.out.ext (ext_undrew hE))
                dsimp only at hK ⊢
                rw [d3] at hK ⊢
                have HK := Lib.hid hK; have HE := Lib.hid hE
                clear hK hd hE d3
                go_wp2_with (go_loud (go_at_call 21; (with_reducible refine (rs_waiting HSW.out hq2).mono ?_); rintro e wx ⟨rfl, rfl⟩; rw [← HWL.out]))
                exact K_at (HK.out (.int .i64 wl) W (fun _ _ => rfl) (Ext.refl W)) (by kernel_rfl)
              · intro us W K hE hd hK
                dsimp only at hK ⊢
                have HK := Lib.hid hK; have HE := Lib.hid hE
                clear hK hd hE
                go_wp2_with fail
                exact K_at (HK.out (.slice (some ⟨gm, 0, none⟩) 2 2) W (fun _ _ => rfl) (Ext.refl W)) (by kernel_rfl)
              · intro us W K hE hd hK
                dsimp only at hK ⊢
                have HK := Lib.hid hK; have HE := Lib.hid hE
                clear hK hd hE
                go_wp2_with fail
                exact K_at (HK.out (.int .i64 q) W (fun _ _ => rfl) (Ext.refl W)) (by kernel_rfl)
              · intro us W K hE hd hK
                have d5 := hd 5 (by kernel_rfl)
                have d6 := hd 6 (by kernel_rfl)
                dsimp only at hK ⊢
                rw [d5, d6] at hK ⊢
                have HK := Lib.hid hK; have HE := Lib.hid hE
                clear hK hd hE d5 d6
                go_wp2_with fail
                exact K_at (HK.out (.pointer (some ⟨gm, q, none⟩)) W (fun _ _ => rfl) (Ext.refl W)) (by kernel_rfl)
              · intro us W K hE hd hK
                have d7 := hd 7 (by kernel_rfl)
                have c0 := (HCE.out W (ext_undrew hE)).2
                dsimp only at hK ⊢
                rw [d7] at hK ⊢
                have HK := Lib.hid hK; have HE := Lib.hid hE
                clear hK hd hE d7
                go_wp2_with fail
                exact K_at (HK.out (.pointer (some ⟨Q q, 0, none⟩)) W (fun _ _ => rfl) (Ext.refl W)) (by kernel_rfl)
              · intro us W K hE hd hK
                have d8 := hd 8 (by kernel_rfl)
                dsimp only at hK ⊢
                rw [d8] at hK ⊢
                have HK := Lib.hid hK; have HE := Lib.hid hE
                clear hK hd hE d8
                go_wp2_with fail
                exact K_at (HK.out (.pointer (some ⟨Q q, 0, none⟩)) W (fun _ _ => rfl) (Ext.refl W)) (by kernel_rfl)
              · intro us W K hE hd hK
                have d9 := hd 9 (by kernel_rfl)
                dsimp only at hK ⊢
                rw [d9] at hK ⊢
                have HK := Lib.hid hK; have HE := Lib.hid hE
                clear hK hd hE d9
                go_wp2_with fail
                exact K_at (HK.out (.pointer (some ⟨Q q, 2, none⟩)) W (fun _ _ => rfl) (Ext.refl W)) (by kernel_rfl)
              · intro us W K hE hd hK
                have d10 := hd 10 (by kernel_rfl)
                have c0 := (HCR.out W (ext_undrew hE)).1
                dsimp only at hK ⊢
                rw [d10] at hK ⊢
                have HK := Lib.hid hK; have HE := Lib.hid hE
                clear hK hd hE d10
                go_wp2_with fail
                exact K_at (HK.out (.slice SA sl sc) W (fun _ _ => rfl) (Ext.refl W)) (by kernel_rfl)
              · intro us W K hE hd hK
                have d11 := hd 11 (by kernel_rfl)
                dsimp only at hK ⊢
                rw [d11] at hK ⊢
                have HK := Lib.hid hK; have HE := Lib.hid hE
                clear hK hd hE d11
                go_wp2_with fail
                exact K_at (HK.out (.int .i64 sl) W (fun _ _ => rfl) (Ext.refl W)) (by kernel_rfl)
              · intro us W K hE hd hK
                dsimp only at hK ⊢
                have HK := Lib.hid hK; have HE := Lib.hid hE
                clear hK hd hE
                go_wp2_with fail
                exact K_at (HK.out (.slice (some ⟨gm, 0, none⟩) 2 2) W (fun _ _ => rfl) (Ext.refl W)) (by kernel_rfl)
              · intro us W K hE hd hK
                dsimp only at hK ⊢
                have HK := Lib.hid hK; have HE := Lib.hid hE
                clear hK hd hE
                go_wp2_with fail
                exact K_at (HK.out (.int .i64 q) W (fun _ _ => rfl) (Ext.refl W)) (by kernel_rfl)
              · intro us W K hE hd hK
                have d13 := hd 13 (by kernel_rfl)
                have d14 := hd 14 (by kernel_rfl)
                dsimp only at hK ⊢
                rw [d13, d14] at hK ⊢
                have HK := Lib.hid hK; have HE := Lib.hid hE
                clear hK hd hE d13 d14
                go_wp2_with fail
                exact K_at (HK.out (.pointer (some ⟨gm, q, none⟩)) W (fun _ _ => rfl) (Ext.refl W)) (by kernel_rfl)
              · intro us W K hE hd hK
                have d15 := hd 15 (by kernel_rfl)
                have c0 := (HCE.out W (ext_undrew hE)).2
                dsimp only at hK ⊢
                rw [d15] at hK ⊢
                have HK := Lib.hid hK; have HE := Lib.hid hE
                clear hK hd hE d15
                go_wp2_with fail
                exact K_at (HK.out (.pointer (some ⟨Q q, 0, none⟩)) W (fun _ _ => rfl) (Ext.refl W)) (by kernel_rfl)
              · intro us W K hE hd hK
                have d16 := hd 16 (by kernel_rfl)
                dsimp only at hK ⊢
                rw [d16] at hK ⊢
                have HK := Lib.hid hK; have HE := Lib.hid hE
                clear hK hd hE d16
                go_wp2_with fail
                exact K_at (HK.out (.pointer (some ⟨Q q, 0, none⟩)) W (fun _ _ => rfl) (Ext.refl W)) (by kernel_rfl)
              · intro us W K hE hd hK
                have d17 := hd 17 (by kernel_rfl)
                dsimp only at hK ⊢
                rw [d17] at hK ⊢
                have HK := Lib.hid hK; have HE := Lib.hid hE
                clear hK hd hE d17
                go_wp2_with fail
                exact K_at (HK.out (.pointer (some ⟨Q q, 3, none⟩)) W (fun _ _ => rfl) (Ext.refl W)) (by kernel_rfl)
              · intro us W K hE hd hK
                have d18 := hd 18 (by kernel_rfl)
                have c0 := (HCR.out W (ext_undrew hE)).2.1
                dsimp only at hK ⊢
                rw [d18] at hK ⊢
                have HK := Lib.hid hK; have HE := Lib.hid hE
                clear hK hd hE d18
                go_wp2_with fail
                exact K_at (HK.out (.int .i64 ac) W (fun _ _ => rfl) (Ext.refl W)) (by kernel_rfl)
              · intro us W K hE hd hK
                have d12 := hd 12 (by kernel_rfl)
                have d19 := hd 19 (by kernel_rfl)
                have hwq := HWQ.out
                dsimp only at hK ⊢
                rw [d12, d19] at hK ⊢
                have HK := Lib.hid hK; have HE := Lib.hid hE
                clear hK hd hE d12 d19
                go_wp2_with fail
                exact K_at (HK.out (.int .i64 (wl : Int)) W (fun _ _ => rfl) (Ext.refl W)) (by kernel_rfl)
              · intro us W K hE hd hK
                have d4 := hd 4 (by kernel_rfl)
                have d20 := hd 20 (by kernel_rfl)
                dsimp only at hK ⊢
                rw [d4, d20] at hK ⊢
                have HK := Lib.hid hK; have HE := Lib.hid hE
                clear hK hd hE d4 d20
                go_wp2_with fail
                exact K_at (HK.out (.bool false) W (fun _ _ => rfl) (Ext.refl W)) (by kernel_rfl)
              · intro us W K hE hd hK
                have d21 := hd 21 (by kernel_rfl)
                dsimp only at hK ⊢
                rw [d21] at hK ⊢
                have HK := Lib.hid hK; have HE := Lib.hid hE
                clear hK hd hE d21
                go_wp2_with fail
                exact K_at (HK.out (.bool false) W (fun _ _ => rfl) (Ext.refl W)) (by kernel_rfl)
              · intro us W K hE hd hK
                have d22 := hd 22 (by kernel_rfl)
                dsimp only at hK ⊢
                rw [d22] at hK ⊢
                have HK := Lib.hid hK; have HE := Lib.hid hE
                clear hK hd hE d22
                go_wp2_with fail
                exact K_at (HK.out (.slice (some ⟨ge, 0, none⟩) 2 2) W (fun _ _ => rfl) (Ext.refl W)) (by kernel_rfl)
              · intro us W K hE hd hK
                have d22 := hd 22 (by kernel_rfl)
                dsimp only at hK ⊢
                rw [d22] at hK ⊢
                have HK := Lib.hid hK; have HE := Lib.hid hE
                clear hK hd hE d22
                go_wp2_with fail
                exact K_at (HK.out (.int .i64 q) W (fun _ _ => rfl) (Ext.refl W)) (by kernel_rfl)
              · intro us W K hE hd hK
                have d22 := hd 22 (by kernel_rfl)
                have d23 := hd 23 (by kernel_rfl)
                have d24 := hd 24 (by kernel_rfl)
                dsimp only at hK ⊢
                rw [d22, d23, d24] at hK ⊢
                have HK := Lib.hid hK; have HE := Lib.hid hE
                clear hK hd hE d22 d23 d24
                go_wp2_with fail
                exact K_at (HK.out (.pointer (some ⟨ge, q, none⟩)) W (fun _ _ => rfl) (Ext.refl W)) (by kernel_rfl)
              · intro us W K hE hd hK
                have d22 := hd 22 (by kernel_rfl)
                have d25 := hd 25 (by kernel_rfl)
                have c0 := (HCE.out W (ext_undrew hE)).1
                dsimp only at hK ⊢
                rw [d22, d25] at hK ⊢
                have HK := Lib.hid hK; have HE := Lib.hid hE
                clear hK hd hE d22 d25
                go_wp2_with fail
                exact K_at (HK.out (.pointer (some ⟨P q, 0, none⟩)) W (fun _ _ => rfl) (Ext.refl W)) (by kernel_rfl)
              · intro us W K hE hd hK
                have d22 := hd 22 (by kernel_rfl)
                have d26 := hd 26 (by kernel_rfl)
                have HSW := Lib.hid (HSk.out.ext (ext_undrew hE))
                dsimp only at hK ⊢
                rw [d22, d26] at hK ⊢
                have HK := Lib.hid hK; have HE := Lib.hid hE
                clear hK hd hE d22 d26
                go_wp2_with (go_loud (go_at_call 22; (with_reducible refine (rs_forged HSW.out hq2).mono ?_); rintro e wx ⟨rfl, rfl⟩; rw [HFQ.out]))
                exact K_at (HK.out (.int .i64 fg) W (fun _ _ => rfl) (Ext.refl W)) (by kernel_rfl)
              · intro us W K hE hd hK
                have d22 := hd 22 (by kernel_rfl)
                dsimp only at hK ⊢
                rw [d22] at hK ⊢
                have HK := Lib.hid hK; have HE := Lib.hid hE
                clear hK hd hE d22
                go_wp2_with fail
                exact K_at (HK.out (.slice (some ⟨gm, 0, none⟩) 2 2) W (fun _ _ => rfl) (Ext.refl W)) (by kernel_rfl)
              · intro us W K hE hd hK
                have d22 := hd 22 (by kernel_rfl)
                dsimp only at hK ⊢
                rw [d22] at hK ⊢
                have HK := Lib.hid hK; have HE := Lib.hid hE
                clear hK hd hE d22
                go_wp2_with fail
                exact K_at (HK.out (.int .i64 q) W (fun _ _ => rfl) (Ext.refl W)) (by kernel_rfl)
              · intro us W K hE hd hK
                have d22 := hd 22 (by kernel_rfl)
                have d28 := hd 28 (by kernel_rfl)
                have d29 := hd 29 (by kernel_rfl)
                dsimp only at hK ⊢
                rw [d22, d28, d29] at hK ⊢
                have HK := Lib.hid hK; have HE := Lib.hid hE
                clear hK hd hE d22 d28 d29
                go_wp2_with fail
                exact K_at (HK.out (.pointer (some ⟨gm, q, none⟩)) W (fun _ _ => rfl) (Ext.refl W)) (by kernel_rfl)
              · intro us W K hE hd hK
                have d22 := hd 22 (by kernel_rfl)
                have d30 := hd 30 (by kernel_rfl)
                have c0 := (HCE.out W (ext_undrew hE)).2
                dsimp only at hK ⊢
                rw [d22, d30] at hK ⊢
                have HK := Lib.hid hK; have HE := Lib.hid hE
                clear hK hd hE d22 d30
                go_wp2_with fail
                exact K_at (HK.out (.pointer (some ⟨Q q, 0, none⟩)) W (fun _ _ => rfl) (Ext.refl W)) (by kernel_rfl)
              · intro us W K hE hd hK
                have d22 := hd 22 (by kernel_rfl)
                have d31 := hd 31 (by kernel_rfl)
                dsimp only at hK ⊢
                rw [d22, d31] at hK ⊢
                have HK := Lib.hid hK; have HE := Lib.hid hE
                clear hK hd hE d22 d31
                go_wp2_with fail
                exact K_at (HK.out (.pointer (some ⟨Q q, 0, none⟩)) W (fun _ _ => rfl) (Ext.refl W)) (by kernel_rfl)
              · intro us W K hE hd hK
                have d22 := hd 22 (by kernel_rfl)
                have d32 := hd 32 (by kernel_rfl)
                dsimp only at hK ⊢
                rw [d22, d32] at hK ⊢
                have HK := Lib.hid hK; have HE := Lib.hid hE
                clear hK hd hE d22 d32
                go_wp2_with fail
                exact K_at (HK.out (.pointer (some ⟨Q q, 7, none⟩)) W (fun _ _ => rfl) (Ext.refl W)) (by kernel_rfl)
              · intro us W K hE hd hK
                have d22 := hd 22 (by kernel_rfl)
                have d33 := hd 33 (by kernel_rfl)
                have c0 := (HCR.out W (ext_undrew hE)).2.2
                dsimp only at hK ⊢
                rw [d22, d33] at hK ⊢
                have HK := Lib.hid hK; have HE := Lib.hid hE
                clear hK hd hE d22 d33
                go_wp2_with fail
                exact K_at (HK.out (.int .i64 fg) W (fun _ _ => rfl) (Ext.refl W)) (by kernel_rfl)
              · intro us W K hE hd hK
                have d22 := hd 22 (by kernel_rfl)
                have d27 := hd 27 (by kernel_rfl)
                have d34 := hd 34 (by kernel_rfl)
                dsimp only at hK ⊢
                rw [d22, d27, d34] at hK ⊢
                have HK := Lib.hid hK; have HE := Lib.hid hE
                clear hK hd hE d22 d27 d34
                go_wp2_with fail
                exact K_at (HK.out (.bool false) W (fun _ _ => rfl) (Ext.refl W)) (by kernel_rfl)
              · intro us W K hE hd hK
                have d22 := hd 22 (by kernel_rfl)
                have d35 := hd 35 (by kernel_rfl)
                dsimp only at hK ⊢
                rw [d22, d35] at hK ⊢
                have HK := Lib.hid hK; have HE := Lib.hid hE
                clear hK hd hE d22 d35
                go_wp2_with fail
                exact K_at (HK.out (.bool false) W (fun _ _ => rfl) (Ext.refl W)) (by kernel_rfl)
            · intro us W hE hd
              try dsimp only
              have d36 := hd 36 (by decide)
              simp only [List.drop_succ_cons, List.drop_zero]
              rw [d36]
              have HEx : Hid (Ext wc W) := Lib.hid (HEo.out.next (ext_undrew hE))
              clear hd hE d36
              go_wp2_with fail
              go_roundw
              case rel => exact ⟨q + 1, by omega, by go_num, HEx.out⟩
              case measure => simp [intOf]; omega
          · have hq3 : 2 ≤ q := by omega
            go_wp2_with fail
            go_roundw
            case rel => exact ⟨m + 1, by omega, by go_num, HC.out.ext HEo.out⟩
            case measure => simp [intOf]; omega
    · have hm2 : N ≤ m := by omega
      by_cases hmn : m < n
      · have hm60 : 60 ≤ m := by omega
        go_wp2_with (go_loud (go_at_call 23; (with_reducible refine (lives_any wo).mono ?_); rintro e w20 ⟨rfl, hE20⟩; have E20 := Lib.hid hE20; clear hE20))
        go_ret
        exact ⟨rfl, HO.out.e.next E20.out⟩
      · have hmn2 : n ≤ m := by omega
        go_wp2_with (go_loud (go_at_call 23; (with_reducible refine (lives_any wo).mono ?_); rintro e w20 ⟨rfl, hE20⟩; have E20 := Lib.hid hE20; clear hE20))
        go_ret
        exact ⟨rfl, HO.out.e.next E20.out⟩
namespace fnLinkRuns
theorem params_linkRuns : (Try.f3.params.toList.all fun t => Try.prog.readableRec t && decide (t < Try.prog.types.size)) = true := by kernel_rfl
theorem contract (H : Type) (enc : TypeId × Value → H) (W : World) (base : Nat) (args : Array Value) (ds gs : List (DataW H)) (before : List MemPlace)
    (hval : ∀ (j : Nat) t v, Try.f3.params[j]? = some t → args[j]? = some v → Value.okWide Try.prog W .any base t v)
    (hW : DataW.Whole enc Try.prog Try.f3.params.toList Rows.linkRunsSpec.vars false W args.toList ds gs before) :
    Calls Try.prog 3 args W fun e W' => ∃ v, e = .returned v ∧ Rows.linkRunsSpec.post enc Try.prog Try.f3 false true false false W args v W' := by
  have hW' := hW
  obtain ⟨p, q, hA0, _, _, _, _⟩ := hW
  have hA : DataW.TrodAll enc Try.prog W 0 (fun _ => true) true Try.f3.params.toList args.toList ds p := hA0
  rw [Try.params3] at hA hval
  obtain ⟨v0, vs0, d0, ds0, p0, q0, hargs, e0d, e0p, h0, r0⟩ := trodAll_cons hA
  obtain ⟨v1, vs1, d1, ds1, p1, q1, e1, e1d, e1p, h1, r1⟩ := trodAll_cons r0
  obtain ⟨v2, vs2, d2, ds2, p2, q2, e2, e2d, e2p, h2, r2⟩ := trodAll_cons r1
  obtain ⟨en1, en2, en3⟩ := trodAll_nil r2
  obtain rfl : args = #[v0, v1, v2] := by cases args; simp_all
  clear hA hA0
  obtain ⟨window, rfl, _, _, hwin⟩ := open_int Try.underlying3 (hval 0 _ v0 rfl rfl) h0
  obtain ⟨key, rfl, _, _, hkey⟩ := open_int Try.underlying22 (hval 1 _ v1 rfl rfl) h1
  obtain ⟨k0, k1⟩ := wf_u64 hkey
  obtain ⟨A, n, c, l, rfl, hR, hwf, hnc, hc⟩ := open_u8s Try.underlying23 Try.underlying3 cellsint (hval 2 _ v2 rfl rfl) h2
  unfold maxLen at hc
  refine (walk_runs window key l A n c W (wf_i64 hwin) k0 k1 hR (fun x hx => wf_i64 (hwf x hx)) hnc hc).mono fun e W' ⟨he, hg⟩ => ⟨_, he, ?_⟩
  exact post_law hW' laidOut (params_ok params_linkRuns) 4 rfl Try.underlying4 rfl (fun ds h => by
    rw [Try.params3] at h
    match ds, h with
    | [_, _, _], _ => rfl) hg
noncomputable def laidWorld (os : Os) : World := World.holding Try.prog os ⟨#[], #[], []⟩
theorem reads (os : Os) {H : Type} (enc : TypeId × Value → H) : ∃ places, DataW.whole enc Try.prog ((laidWorld os).forCall (fun _ _ => 0) ⟨#[], #[.int .i64 0, .int .u64 0, .slice none 0 0], []⟩).memory Try.f3.params.toList Rows.linkRunsSpec.vars false (#[.int .i64 0, .int .u64 0, .slice none 0 0] : Array Value).toList 8 = some ([.lit (.int .i64 0), .lit (.int .u64 0), .nil], [], places) :=
  ⟨[], by kernel_rfl⟩
set_option maxRecDepth 100000 in
theorem lifted (os : Os) (started : os.Started) (H : Type) (enc : TypeId × Value → H) (F : Stop.Interp) :
    ReturnsInHanded {} Try.checked os 3 .any ((OpenSpec.ofChange Rows.linkRunsSpec).preRow enc Try.prog Try.f3 Rows.linkRunsRow.domain false Rows.linkRunsRow.laid) (((OpenSpec.ofChange Rows.linkRunsSpec).at F).post enc Try.prog Try.f3 false true false false) := by
  obtain ⟨places, hx⟩ := reads os enc
  refine returnsInHanded_of_row (C := Try.checked) (s := OpenSpec.ofChange Rows.linkRunsSpec) own started (by kernel_rfl) Try.func3
    (witness_row_at (enc := enc) (C := Try.checked) false (laidWorld os) #[.int .i64 0, .int .u64 0, .slice none 0 0] rfl (by kernel_rfl) (by kernel_rfl) (by kernel_rfl)
      (OpenSpec.preRow_of_cond 8 hx (by kernel_rfl) (fun k hk => by cases hk) (by kernel_rfl) (laidMet_nil _ _))) ?_
  intro W base args ds gs before hval hW _ _ _ hL _ _
  exact contract H enc W base args ds gs before hval hW
theorem said : Rows.LinkRunsSaid :=
  OpenClaim.holds_of_cond 3 Try.f3 rfl rfl rfl rfl rfl rfl rfl ⟨rfl, rfl, rfl, rfl, rfl⟩ rfl rfl rfl rfl rfl (by kernel_rfl) Try.func3 (by kernel_rfl)
    (of_decide_eq_true (by kernel_rfl)) (by unfold Func.isWrapper; first | (rw [if_pos (by decide +kernel)]; kernel_rfl) | (rw [if_neg (by decide +kernel)]; exact ⟨rfl, rfl⟩))
    (fun os started H enc _ F => by rw [OpenClaim.pre_eq_preRow]; exact lifted os started H enc F)
end fnLinkRuns
end Go.Proofs.Ytkgmoklifkojhaa
