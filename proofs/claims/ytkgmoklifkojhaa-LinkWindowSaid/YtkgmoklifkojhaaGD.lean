/- What the laws about links share: the encoders and decoders in the form that they use. No condition. -/
import Derived.Test.YtkgmoklifkojhaaLaw
import Derived.Test.YtkgmoklifkojhaaGC
import Derived.Test.YtkgmoklifkojhaaGA
import Derived.Test.YtkgmoklifkojhaaGF
import Derived.Deep.DeepHandedRow
import Derived.Deep.CutBlock
import Derived.Lib.AppendZeros
set_option linter.unusedSimpArgs false
set_option linter.unusedVariables false
namespace Go.Proofs.Ytkgmoklifkojhaa
open Go.RowKit Go.WideShapes Go.ChangeShapes
theorem slice_cap {w : World} {base : Nat} {e : TypeId} {size n c : Nat} {A : Option Addr} {xs : List Value} (h : w.ownsRow base e size (.slice A n c) n xs) : n ≤ c ∧ c ≤ maxLen := by
  rcases h.2 with ⟨hv, h0⟩ | ⟨g, cap, cur, hv, hg, hh, h1, h2, _⟩
  · injection hv with _ h1 h2; subst h1 h2; exact ⟨Nat.le_refl _, by decide⟩
  · injection hv with _ _ h3; subst h3; exact ⟨h1, h2⟩
theorem RdN.of_own {w : World} {base : Nat} {e : TypeId} {size n c : Nat} {A : Option Addr} {xs : List Value} (h : w.ownsRow base e size (.slice A n c) n xs) : RdN w w.heap.size size A n xs := by
  refine ⟨by simpa using h.1, fun hn => ?_⟩
  rcases h.2 with ⟨hv, h0⟩ | ⟨g, cap, cur, hv, hg, hh, _⟩
  · omega
  · have hA : A = some ⟨g, 0, none⟩ := by injection hv
    subst hA
    refine ⟨g, 0, rfl, ?_, fun j u hu => ?_⟩
    · exact (h.lt g (by simp [Value.ownBlock])).2
    · have := h.cells (g := g) (by simp [Value.ownBlock]) j u hu
      rw [Nat.zero_add]
      have e : (⟨g, 0, none⟩ : Addr).add j = ⟨g, j, none⟩ := by unfold Addr.add; split <;> simp_all
      rwa [e] at this
theorem byt_all {l : List Int} (h : (l.all fun x => decide (0 ≤ x) && decide (x ≤ 255)) = true) : Byt l := fun x hx => by
  have := List.all_eq_true.1 h x hx
  simpa using this
theorem own : ownKnob Try.prog.godebug = none := by kernel_rfl
theorem laidOut : laidOutB Try.prog = true := by kernel_rfl
theorem cellsu8 : Try.prog.cellsOf 5 = 1 := by kernel_rfl
theorem cellsint : Try.prog.cellsOf 3 = 1 := by kernel_rfl
theorem byt_wf {l : List Int} (h : ∀ x ∈ l, (Lit.int .u8 x).wf = true) : Byt l := fun x hx => by
  have := h x hx
  simp [Lit.wf, IntKind.min, IntKind.max, IntKind.bits, IntKind.signed] at this
  omega
theorem wf_i64 {x : Int} (h : (Lit.int .i64 x).wf = true) : -9223372036854775808 ≤ x ∧ x ≤ 9223372036854775807 := by
  simp [Lit.wf, IntKind.min, IntKind.max, IntKind.bits, IntKind.signed] at h
  omega
theorem gintsR (l : List Int) (A0 : Option Addr) (n c : Nat) (w : World) (hl : Rd w w.heap.size A0 n (u8s l)) (hby : Byt l) (hnc : n ≤ c) (hc : c ≤ 9223372036854775807) (hn : n ≤ 1000000000000) (xs : List Int) (u er : Int) (hx : decList getI l = (xs, u, er)) :
    Calls Try.prog 46 #[.slice A0 n c] w fun e w' => (∃ A' c', e = .returned (.tuple #[.slice A' xs.length c', .int .i64 u, .int .i64 er]) ∧ (xs.length ≤ c' ∧ c' ≤ maxLen) ∧ Rd w' w'.heap.size A' xs.length (xs.map (Value.int .i64))) ∧ Ext w w' :=
  (gints_any l A0 n c w hl hby hnc hc hn).mono fun e w' h => by
    obtain ⟨⟨A, c, h, ho⟩, hB⟩ := h
    rw [hx] at h ho
    exact ⟨⟨A, c, h, slice_cap ho, Rd.of_own ho⟩, hB⟩
theorem rgintsR (l : List Int) (A0 : Option Addr) (n c : Nat) (w : World) (hl : Rd w w.heap.size A0 n (u8s l)) (hby : Byt l) (hnc : n ≤ c) (hc : c ≤ 9223372036854775807) (hn : n ≤ 1000000000000) (xs : List Int) (u er : Int) (hx : decList getI l = (xs, u, er)) :
    Calls Try.prog 49 #[.slice A0 n c] w fun e w' => (∃ A' c', e = .returned (.tuple #[.slice A' xs.length c', .int .i64 u, .int .i64 er]) ∧ (xs.length ≤ c' ∧ c' ≤ maxLen) ∧ Rd w' w'.heap.size A' xs.length (xs.map (Value.int .i64))) ∧ Ext w w' :=
  (rgints_any l A0 n c w hl hby hnc hc hn).mono fun e w' h => by
    obtain ⟨⟨A, c, h, ho⟩, hB⟩ := h
    rw [hx] at h ho
    exact ⟨⟨A, c, h, slice_cap ho, Rd.of_own ho⟩, hB⟩
theorem decMany_len {α : Type} (one : List Int → α × Int × Int) : ∀ (m : Nat) (l : List Int), (decMany one m l).2.1.length ≤ m
  | 0, _ => by simp [decMany]
  | m + 1, l => by
    unfold decMany
    split
    · simp
    · simp only [List.length_cons]
      have := decMany_len one m (l.drop (one l).2.1.toNat)
      omega
theorem decList_len {α : Type} (one : List Int → α × Int × Int) (l : List Int) (hb : Byt l) : (decList one l).1.length ≤ l.length := by
  unfold decList
  rcases cntI_cases l hb 1 (Nat.le_refl _) with ⟨er, hg, he⟩ | ⟨n, k, hg, _, _, hk, _, _⟩
  · rw [hg, if_pos (by rcases he with rfl | rfl <;> simp)]; simp
  · rw [hg]
    simp only [ne_eq, not_true_eq_false, if_false, Int.toNat_natCast]
    split
    · simp
    · have := decMany_len one n (l.drop k)
      simp only
      omega
theorem rd_at {w : World} {B : Nat} {A : Option Addr} {n : Nat} {xs : List Value} (h : Rd w B A n xs) (hn : 0 < n) : ∃ b o, A = some ⟨b, o, none⟩ ∧ Rd w B (some ⟨b, o, none⟩) n xs := by
  obtain ⟨b, o, rfl, _, _⟩ := h.2 hn
  exact ⟨b, o, rfl, h⟩
theorem encInt_pos (n : Int) : 0 < (encInt n).length := by rw [encInt_length]; omega
theorem intR (x : Int) (w : World) (h0 : -9223372036854775808 ≤ x) (h1 : x ≤ 9223372036854775807) (l : List Int) (k : Nat) (hl : encInt x = l) (hk : l.length = k) :
    Calls Try.prog 43 #[.int .i64 x] w fun e w' => (∃ b o c, e = .returned (.slice (some ⟨b, o, none⟩) k c) ∧ (k ≤ c ∧ c ≤ maxLen) ∧ Rd w' w'.heap.size (some ⟨b, o, none⟩) k (u8s l)) ∧ Ext w w' :=
  (wintL_any x w h0 h1).mono fun e w' h => by
    obtain ⟨⟨A, c, h, ho⟩, hB⟩ := h
    subst hl
    subst hk
    obtain ⟨b, o, rfl, hr⟩ := rd_at (Rd.of_own ho) (encInt_pos x)
    exact ⟨⟨b, o, c, h, slice_cap ho, hr⟩, hB⟩
theorem u8_one (l : List Int) : ∀ u ∈ u8s l, u.oneCell' = true := u8s_one l
theorem tight_of {w w' : World} {e : Ending} {q l : List Int} {k : Nat} {T : TypeId} (h : (∃ A c, e = .returned (.slice A q.length c) ∧ w'.ownsRow w.heap.size T 1 (.slice A q.length c) q.length (u8s q)) ∧ Below w.heap.size w w') (hl : q = l) (hk : l.length = k) (h0 : 0 < k) :
    (∃ b o c, e = .returned (.slice (some ⟨b, o, none⟩) k c) ∧ (k ≤ c ∧ c ≤ maxLen) ∧ Rd w' w'.heap.size (some ⟨b, o, none⟩) k (u8s l)) ∧ Ext w w' := by
  obtain ⟨⟨A, c, h, ho⟩, hB⟩ := h
  subst hl
  subst hk
  obtain ⟨b, o, rfl, hr⟩ := rd_at (Rd.of_own ho) h0
  exact ⟨⟨b, o, c, h, slice_cap ho, hr⟩, hB⟩
theorem bytesR (s : ByteArray) (w : World) (hs : s.size ≤ 1000000000000) (l : List Int) (k : Nat) (hl : encB s = l) (hk : l.length = k) (h0 : 0 < k) :
    Calls Try.prog 27 #[.string s] w fun e w' => (∃ b o c, e = .returned (.slice (some ⟨b, o, none⟩) k c) ∧ (k ≤ c ∧ c ≤ maxLen) ∧ Rd w' w'.heap.size (some ⟨b, o, none⟩) k (u8s l)) ∧ Ext w w' :=
  (wbytes_any s w hs).mono fun _ _ h => tight_of h hl hk h0
theorem intsR (xs : List Int) (A : Option Addr) (n c : Nat) (w : World) (hx : Rd w w.heap.size A n (xs.map (Value.int .i64))) (hwf : ∀ x ∈ xs, -9223372036854775808 ≤ x ∧ x ≤ 9223372036854775807) (hcat : (encL encInt xs).length ≤ 100000000000) (hn : n ≤ 9223372036854775807) (l : List Int) (k : Nat) (hl : encL encInt xs = l) (hk : l.length = k) (h0 : 0 < k) :
    Calls Try.prog 26 #[.slice A n c] w fun e w' => (∃ b o c, e = .returned (.slice (some ⟨b, o, none⟩) k c) ∧ (k ≤ c ∧ c ≤ maxLen) ∧ Rd w' w'.heap.size (some ⟨b, o, none⟩) k (u8s l)) ∧ Ext w w' :=
  (ints_any xs A n c w hx hwf hcat hn).mono fun _ _ h => tight_of h hl hk h0
theorem encL_pos {α : Type} (f : α → List Int) (l : List α) : 0 < (encL f l).length := by
  unfold encL
  rw [List.length_append]
  have := encInt_pos (l.length : Int)
  omega
theorem encB_pos (s : ByteArray) : 0 < (encB s).length := by
  unfold encB
  rw [List.length_append]
  have := encInt_pos (s.size : Int)
  omega
theorem encB_decS (s : ByteArray) (r : List Int) (h : (s.size : Int) ≤ 9223372036854775807) : decS (encB s ++ r) = (s, ((encB s).length : Int), 0) := decS_enc s r h
theorem encL_int_le2 (l : List Int) (h : ∀ x ∈ l, -9223372036854775808 ≤ x ∧ x ≤ 9223372036854775807) : (l.flatMap encInt).length ≤ 9 * l.length := by
  induction l with
  | nil => simp
  | cons x l ih =>
    have a := ih (fun y hy => h y (List.mem_cons_of_mem _ hy))
    have b := encInt_le9 x (h x (List.mem_cons_self ..)).1 (h x (List.mem_cons_self ..)).2
    rw [List.flatMap_cons, List.length_append, List.length_cons]
    omega
theorem encL_int_byt2 (l : List Int) (h : ∀ x ∈ l, -9223372036854775808 ≤ x ∧ x ≤ 9223372036854775807) : Byt (l.flatMap encInt) := by
  intro y hy
  obtain ⟨x, hx, hy⟩ := List.mem_flatMap.1 hy
  exact encInt_byt x (h x hx).1 (h x hx).2 y hy
theorem dec_ints (l : List Int) (r : List Int) (hwf : ∀ x ∈ l, -9223372036854775808 ≤ x ∧ x ≤ 9223372036854775807) (hn : (l.length : Int) ≤ 9223372036854775807) : decList getI (encL encInt l ++ r) = (l, ((encL encInt l).length : Int), 0) :=
  decList_enc getI encInt l r (fun x hx r => getI_enc x r (hwf x hx).1 (hwf x hx).2) (fun x _ => encInt_pos x) hn
end Go.Proofs.Ytkgmoklifkojhaa

/- The seal of a packet: link.seal. No condition. -/
namespace Go.Proofs.Ytkgmoklifkojhaa
open Go.RowKit
/-- One step of the seal's hash. -/
def fnv1 (h c : Int) : Int := IntKind.u64.wrap (bits .xor .u64 h c * 1099511628211)
def fnv (h : Int) : List Int → Int
  | [] => h
  | c :: r => fnv (fnv1 h c) r
def seedL (key : Int) : Int := bits .xor .u64 14695981039346656037 key
/-- The eight bytes of the seal. -/
def sealB (key : Int) (l : List Int) : List Int := (List.range 8).map fun i => fnv (seedL key) l / 2 ^ (8 * i) % 256
theorem sealB_length (key : Int) (l : List Int) : (sealB key l).length = 8 := by simp [sealB]
theorem fnv_append (h : Int) (a b : List Int) : fnv h (a ++ b) = fnv (fnv h a) b := by
  induction a generalizing h with
  | nil => rfl
  | cons x a ih => exact ih _
theorem fnv_succ (h : Int) (l : List Int) (t : Nat) (ht : t < l.length) : fnv h (l.take (t + 1)) = fnv1 (fnv h (l.take t)) (l.getD t 0) := by
  have : l[t]? = some (l.getD t 0) := by simp [List.getD_eq_getElem?_getD, List.getElem?_eq_getElem ht]
  rw [List.take_add_one, this, fnv_append]
  rfl
theorem wrap_u64 (x : Int) : 0 ≤ IntKind.u64.wrap x ∧ IntKind.u64.wrap x ≤ 18446744073709551615 := by
  simp [IntKind.wrap, IntKind.bits, IntKind.signed]
  omega
theorem fnv1_bd (h c : Int) : 0 ≤ fnv1 h c ∧ fnv1 h c ≤ 18446744073709551615 := wrap_u64 _
theorem seedL_bd (key : Int) : 0 ≤ seedL key ∧ seedL key ≤ 18446744073709551615 := wrap_u64 _
theorem fnv_bd (h : Int) (h0 : 0 ≤ h) (h1 : h ≤ 18446744073709551615) (l : List Int) : 0 ≤ fnv h l ∧ fnv h l ≤ 18446744073709551615 := by
  induction l generalizing h with
  | nil => exact ⟨h0, h1⟩
  | cons c r ih => exact ih _ (fnv1_bd h c).1 (fnv1_bd h c).2
theorem sealB_byt (key : Int) (l : List Int) : Byt (sealB key l) := fun x hx => by
  obtain ⟨i, _, rfl⟩ := List.mem_map.1 hx
  omega
theorem info_8u8 : (Try.prog.info? 79).map (·.size) = some 8 := by kernel_rfl
def upTo8 (l : List Int) (t : Nat) : List Int := l.take t ++ List.replicate (8 - t) 0
theorem upTo8_set (l : List Int) (t : Nat) (h : t < 8) (hl : l.length = 8) : (u8s (upTo8 l t)).set t (.int .u8 (l.getD t 0)) = u8s (upTo8 l (t + 1)) := by
  have e : l[t]? = some (l.getD t 0) := by simp [List.getD_eq_getElem?_getD, List.getElem?_eq_getElem (show t < l.length by omega)]
  obtain ⟨q, hq⟩ : ∃ q, 8 - t = q + 1 := ⟨7 - t, by omega⟩
  unfold upTo8
  rw [hq, show 8 - (t + 1) = q by omega, List.take_add_one, e, List.replicate_succ]
  simp only [u8s, List.map_append, List.map_cons, Option.toList_some, List.map_nil]
  rw [List.set_append_right _ _ (by simp; omega)]
  have h0 : t - (List.map (Value.int .u8) (l.take t)).length = 0 := by simp; omega
  rw [h0]
  simp
set_option maxHeartbeats 4000000 in
set_option maxRecDepth 100000 in
theorem seal_any (key : Int) (_k0 : 0 ≤ key) (_k1 : key ≤ 18446744073709551615) (l : List Int) (A : Option Addr) (n c : Nat) (w : World) (hl : Rd w w.heap.size A n (u8s l)) (hby : Byt l) (hn : n ≤ 9223372036854775807) :
    Calls Try.prog 41 #[.int .u64 key, .slice A n c] w fun e w' => e = .returned (.agg (u8s (sealB key l)).toArray) ∧ Ext w w' := by
  have hlen : l.length = n := by simpa [u8s] using hl.1
  have HL := Lib.hid hl; have HN := Lib.hid hlen; have HBY := Lib.hid hby
  clear hl hlen hby
  obtain ⟨h0, hh0⟩ : ∃ h, h = seedL key := ⟨_, rfl⟩
  have HH0 : Hid (seedL key = h0) := Lib.hid hh0.symm
  have HSE : Hid (bits .xor .u64 14695981039346656037 key = h0) := Lib.hid hh0.symm
  have hb0 : 0 ≤ h0 ∧ h0 ≤ 18446744073709551615 := by rw [hh0]; exact seedL_bd key
  clear hh0
  go_enter Try.func41, Try.ntmps41
  go_upto_region 1 with (fail)
  obtain ⟨w0, hw0⟩ : ∃ w0, w0 = w.alloc (.cells (u8s (List.replicate 8 0)).toArray 79) := ⟨_, rfl⟩
  change Code.wp _ _ _ _ (w.alloc (.cells (u8s (List.replicate 8 0)).toArray 79))
  rw [← hw0]
  obtain ⟨g, hg⟩ : ∃ g, g = w.heap.size := ⟨_, rfl⟩
  rw [← hg]
  have HW0 : Hid (Blk w0 g 79 (u8s (List.replicate 8 0))) := Lib.hid (by rw [hw0, hg]; exact Blk.fresh _ _ _)
  have E0 : Hid (Ext w w0) := Lib.hid (by rw [hw0]; exact (Ext.refl w).alloc _)
  have hg0 : w.heap.size ≤ g := by omega
  clear hw0 hg
  have hse := HSE.out
  go_wp2_with fail
  clear hse
  go_loopw [5, 14] (fun s5 i wr => ∃ t : Nat, t ≤ n ∧ i = .int .i64 t ∧ s5 = .int .u64 (fnv h0 (l.take t)) ∧ wr = w0) (fun _ i _ => n - (intOf i).toNat)
  case atStart => exact ⟨0, Nat.zero_le _, rfl, rfl, rfl⟩
  case round =>
    obtain ⟨t, ht, rfl, rfl, hw⟩ := hrel
    subst hw
    by_cases hlt : t < n
    · obtain ⟨b, o, rfl, hb, hc⟩ := rd_u8 HL.out (by omega)
      have c0 := (E0.out.cell (p := ⟨b, o + t, none⟩) hb).trans (hc t hlt)
      have hbx := HBY.out.at_ t
      have hbh := fnv_bd h0 hb0.1 hb0.2 (l.take t)
      have HF := Lib.hid (fnv_succ h0 l t (by rw [HN.out]; exact hlt))
      clear hc
      generalize l.getD t 0 = x at *
      generalize fnv h0 (l.take t) = h at *
      obtain ⟨x0, x1⟩ := hbx
      obtain ⟨y0, y1⟩ := hbh
      go_wp2_with fail
      go_roundw
      case rel => exact ⟨t + 1, by omega, by go_num, by rw [HF.out]; rfl, trivial⟩
      case measure => simp [intOf]; omega
    · obtain rfl : t = n := by omega
      have ht2 : l.take t = l := List.take_of_length_le (by rw [HN.out]; exact Nat.le_refl _)
      rw [ht2]
      have hbh := fnv_bd h0 hb0.1 hb0.2 l
      have HSB : Hid (sealB key l = (List.range 8).map fun i => fnv h0 l / 2 ^ (8 * i) % 256) := Lib.hid (by unfold sealB; rw [HH0.out])
      clear ht2
      generalize fnv h0 l = h at *
      obtain ⟨y0, y1⟩ := hbh
      go_upto_region 8 with fail
      obtain ⟨w1, hw1⟩ : ∃ w1, w1 = wr.alloc (.cells (u8s (List.replicate 8 0)).toArray 79) := ⟨_, rfl⟩
      change Code.wp _ _ _ _ (wr.alloc (.cells (u8s (List.replicate 8 0)).toArray 79))
      rw [← hw1]
      obtain ⟨q, hq⟩ : ∃ q, q = wr.heap.size := ⟨_, rfl⟩
      rw [← hq]
      have HW1 : Hid (Blk w1 q 79 (u8s (List.replicate 8 0))) := Lib.hid (by rw [hw1, hq]; exact Blk.fresh _ _ _)
      have E1 : Hid (Ext w w1) := Lib.hid (by rw [hw1]; exact E0.out.alloc _)
      have HG1 : Hid (Blk w1 g 79 (u8s (List.replicate 8 0))) := Lib.hid (by rw [hw1]; exact HW0.out.alloc _)
      have hq0 : w.heap.size ≤ q := by rw [hq]; exact E0.out.size
      have hgq : g < q := by rw [hq]; exact HW0.out.lt
      clear hw1 hq
      obtain ⟨S, hS⟩ : ∃ S, S = sealB key l := ⟨_, rfl⟩
      have HSL : Hid (S.length = 8) := Lib.hid (by rw [hS]; exact sealB_length key l)
      have HSG : Hid (∀ t, t < 8 → S.getD t 0 = h / 2 ^ (8 * t) % 256) := Lib.hid (fun t ht => by
        rw [hS, HSB.out, List.getD_eq_getElem?_getD, List.getElem?_map, List.getElem?_range ht]; rfl)
      have HSE2 : Hid (sealB key l = S) := Lib.hid hS.symm
      clear hS HSB
      go_wp2_with fail
      go_loopw [24] (fun i wr => ∃ t : Nat, t ≤ 8 ∧ i = .int .i64 t ∧ Blk wr q 79 (u8s (upTo8 S t)) ∧ Blk wr g 79 (u8s (List.replicate 8 0)) ∧ Ext w wr) (fun i _ => 8 - (intOf i).toNat)
      case atStart => exact ⟨0, by omega, rfl, HW1.out, HG1.out, E1.out⟩
      case round =>
        obtain ⟨t, ht, rfl, hb, hgb, hE⟩ := hrel
        have HB := Lib.hid hb; have HGB := Lib.hid hgb; have HE := Lib.hid hE
        clear hb hgb hE
        by_cases hlt : t < 8
        · have co : wr.cell? ⟨q, t, none⟩ = some (.int .u8 0) := by
            rw [HB.out.cell t, u8s_get _ _ (by have := HSL.out; simp [upTo8]; omega)]
            congr 2
            have := HSL.out
            unfold upTo8
            rw [List.getD_eq_getElem?_getD, List.getElem?_append_right (by simp; omega)]
            simp only [List.length_take, List.getElem?_replicate]
            split <;> rfl
          have fz := HB.out.frozen t
          have HSET := Lib.hid (upTo8_set S t hlt HSL.out)
          have HV := Lib.hid (HSG.out t hlt)
          go_wp2_with fail
          refine ⟨⟨t + 1, by omega, by go_num, ?_, HGB.out.far (by simp; omega) _, HE.out.setCell (by simp; omega) _⟩, by simp [intOf]; omega⟩
          rw [← HV.out, ← HSET.out]
          exact HB.out.set t _
        · obtain rfl : t = 8 := by omega
          have hS8 : upTo8 S 8 = S := by
            unfold upTo8
            rw [List.take_of_length_le (by rw [HSL.out]; exact Nat.le_refl _)]
            simp
          have HB8 : Hid (Blk wr q 79 (u8s S)) := Lib.hid (by have := HB.out; rw [hS8] at this; exact this)
          have HUL : Hid ((u8s S).length = 8) := Lib.hid (by rw [u8s_length, HSL.out])
          clear hS8
          go_wp2_with (first
            | (refine wpList_load_blk rfl 79 (.tmp 8) rfl q rfl HB8.out Try.underlying79 rfl (info_8u8.trans (congrArg some HUL.out.symm)) ?_)
            | (refine wpList_store_blk rfl 79 (.tmp 4) (.tmp 35) rfl g (u8s S) rfl rfl HGB.out (info_8u8.trans (congrArg some HUL.out.symm)) (by rw [HUL.out]; rfl) (u8s_one S) ?_; intro w3 hw3 hb3))
          refine bodyPost_ret (results_blk Try.results41 _ _ g 79 (u8s S) _ rfl hb3 Try.underlying79 rfl (info_8u8.trans (congrArg some HUL.out.symm))) rfl ⟨by rw [HSE2.out], ?_⟩
          rw [hw3.out]
          exact HE.out.setRow hg0 _
end Go.Proofs.Ytkgmoklifkojhaa

/- slices.Grow of nil, slices.Concat and slices.Clone at byte slices. Conditions: sizes that fit the memory. -/
namespace Go.Proofs.Ytkgmoklifkojhaa
open Go.RowKit
theorem zeroCells_size (n : Nat) : (Builtin.zeroCells (Value.int .u8 0).cells n).size = n := by
  simp [Builtin.zeroCells, Value.cells]
set_option maxHeartbeats 1000000 in
set_option maxRecDepth 100000 in
theorem grow_any (n : Nat) (w : World) (hn : n ≤ 1000000000000) :
    Calls Try.prog 51 #[.slice none 0 0, .int .i64 n] w fun e w' => ∃ A c, e = .returned (.slice A 0 c) ∧ w'.ownsRow w.heap.size 5 1 (.slice A 0 c) 0 [] ∧ Below w.heap.size w w' := by
  obtain ⟨i0, hi, hz0, hz1, hz2⟩ := info_parts winfo_u8
  rcases Nat.eq_zero_or_pos n with h0 | h0
  · subst h0
    go_enter Try.func51, Try.ntmps51
    go_wp2_with fail
    go_ret
    exact ⟨none, 0, rfl, World.ownsRow_nil _ _ _ _, Below.refl _ _⟩
  · have hrun := Lib.run_append_nil_zeros (P := Try.prog) w 33 3 33 5 i0 (.int .u8 0) .i64 .i64 Try.underlying33 Try.underlying3 hi hz0 n h0 (by rw [hz1]; decide) (by omega) (by rw [hz2]; omega)
    have hge := grownCap_ge w n 0 5
    have hle := grownCap_le_maxLen w n 0 5 (by simp only [maxLen]; omega)
    generalize grownCap w n 0 5 = c at *
    obtain ⟨w1, hw1⟩ : ∃ w1, w1 = w.drew.alloc (.cells (Builtin.zeroCells (Value.int .u8 0).cells n ++ Builtin.zeroCells (Value.int .u8 0).cells (c - n)) 5) := ⟨_, rfl⟩
    rw [← hw1] at hrun
    have hc64 : c ≤ 9223372036854775807 := by unfold maxLen at hle; omega
    have HB : Hid (Below w.heap.size w w1) := Lib.hid (by rw [hw1]; exact (Ext.refl w).drew.alloc _)
    have HO : Hid (w1.ownsRow w.heap.size 5 1 (.slice (some ⟨w.heap.size, 0, none⟩) 0 c) 0 []) := Lib.hid (by
      rw [hw1]
      refine ⟨rfl, Or.inr ⟨w.heap.size, c, _, rfl, Nat.le_refl _, heap_alloc_new w.drew _, Nat.zero_le _, hle, ?_, rfl⟩⟩
      simp only [Array.size_append, zeroCells_size]
      omega)
    clear hw1 hle
    go_enter Try.func51, Try.ntmps51
    go_wp2_with (at_builtin; refine Lib.wpList_append_run w rfl (.tmp 20) (.tmp 21) 33 3 rfl (.slice none 0 0) (.int .i64 n) rfl rfl _ _ hrun ?_)
    go_ret
    exact ⟨_, _, rfl, HO.out, HB.out⟩
/-- The slices of a slice of byte slices. -/
def RdLs (w : World) (B g o : Nat) (ls : List (List Int)) : Prop := ∀ j, j < ls.length → ∃ A c, w.cell? ⟨g, o + j, none⟩ = some (.slice A (ls.getD j []).length c) ∧ Rd w B A (ls.getD j []).length (u8s (ls.getD j []))
def flatTo (ls : List (List Int)) (t : Nat) : List Int := (ls.take t).flatten
theorem flatTo_succ (ls : List (List Int)) (t : Nat) (h : t < ls.length) : flatTo ls (t + 1) = flatTo ls t ++ ls.getD t [] := by
  have : ls[t]? = some (ls.getD t []) := by simp [List.getD_eq_getElem?_getD, List.getElem?_eq_getElem h]
  unfold flatTo
  rw [List.take_add_one, this]
  simp
theorem flatTo_le (ls : List (List Int)) (t : Nat) : (flatTo ls t).length ≤ ls.flatten.length := by
  unfold flatTo
  conv => rhs; rw [← List.take_append_drop t ls, List.flatten_append, List.length_append]
  omega
set_option maxHeartbeats 4000000 in
set_option maxRecDepth 100000 in
theorem concat_any (ls : List (List Int)) (g o k c : Nat) (w : World) (hR : RdLs w w.heap.size g o ls) (hg : g < w.heap.size) (hk : ls.length = k) (hkc : k ≤ 1000000) (hlen : ls.flatten.length ≤ 100000000000) :
    Calls Try.prog 42 #[.slice (some ⟨g, o, none⟩) k c] w fun e w' => (∃ A' c', e = .returned (.slice A' ls.flatten.length c') ∧ w'.ownsRow w.heap.size 5 1 (.slice A' ls.flatten.length c') ls.flatten.length (u8s ls.flatten)) ∧ Below w.heap.size w w' := by
  obtain ⟨i0, hi, hz0, hz1, hz2⟩ := info_parts winfo_u8
  have HR := Lib.hid hR; have HK := Lib.hid hk
  have HLE : Hid (∀ t, (flatTo ls t).length ≤ 100000000000) := Lib.hid (fun t => Nat.le_trans (flatTo_le ls t) hlen)
  have HF : Hid (flatTo ls k = ls.flatten) := Lib.hid (by unfold flatTo; rw [List.take_of_length_le (by omega)])
  have H0 : Hid (flatTo ls 0 = []) := Lib.hid rfl
  clear hR hk hlen
  go_enter Try.func42, Try.ntmps42
  go_wp2_with fail
  go_loopw [3, 11] (fun s i wr => ∃ t : Nat, t ≤ k ∧ i = .int .i64 t ∧ s = .int .i64 (flatTo ls t).length ∧ wr = w) (fun _ i _ => k - (intOf i).toNat)
  case atStart => exact ⟨0, Nat.zero_le _, rfl, by rw [H0.out]; rfl, rfl⟩
  case round =>
    obtain ⟨t, ht, rfl, rfl, hw⟩ := hrel
    subst hw
    have hbt := HLE.out t
    by_cases hlt : t < k
    · obtain ⟨A, cc, hc, hr⟩ := HR.out t (by rw [HK.out]; exact hlt)
      have hS := flatTo_succ ls t (by rw [HK.out]; exact hlt)
      have hb2 := HLE.out (t + 1)
      rw [hS, List.length_append] at hb2
      have HS : Hid ((flatTo ls (t + 1)).length = (flatTo ls t).length + (ls.getD t []).length) := Lib.hid (by rw [hS, List.length_append])
      clear hS
      generalize (flatTo ls t).length = x at *
      generalize (ls.getD t []).length = y at *
      go_wp2_with fail
      go_roundw
      case rel => exact ⟨t + 1, by omega, by go_num, by rw [HS.out]; go_num, trivial⟩
      case measure => simp [intOf]; omega
    · obtain rfl : t = k := by omega
      rw [HF.out] at hbt ⊢
      obtain ⟨N, hN⟩ : ∃ N, N = ls.flatten.length := ⟨_, rfl⟩
      rw [← hN] at hbt ⊢
      have HN := Lib.hid hN
      clear hN
      go_wp2_with (go_at_call 51; (with_reducible refine (grow_any N wr (by omega)).mono ?_); rintro e w1 ⟨A1, c1, rfl, hown1, hB1⟩)
      have HO1 := Lib.hid hown1; have HB1 := Lib.hid hB1
      clear hown1 hB1
      obtain ⟨w, rfl⟩ : ∃ x : World, x = wr := ⟨_, rfl⟩
      go_loopw [6, 27] (fun s i wr => ∃ (q : Nat) (A : Option Addr) (c m : Nat), q ≤ t ∧ i = .int .i64 q ∧ s = .slice A m c ∧ m = (flatTo ls q).length ∧ wr.ownsRow w.heap.size 5 1 (.slice A m c) m (u8s (flatTo ls q)) ∧ Below w.heap.size w wr) (fun _ i _ => t - (intOf i).toNat)
      case atStart => exact ⟨0, A1, c1, 0, Nat.zero_le _, rfl, rfl, by rw [H0.out]; rfl, by rw [H0.out]; exact HO1.out, HB1.out⟩
      case round =>
        clear HO1 HB1
        obtain ⟨q, A2, c2, m, hq, rfl, rfl, hm, hown, hB⟩ := hrel
        have hs := hB.size
        by_cases hlt2 : q < t
        · obtain ⟨A, cc, hc, hr⟩ := HR.out q (by rw [HK.out]; exact hlt2)
          have hc2 := (hB.cell (p := ⟨g, o + q, none⟩) hg).trans hc
          have hr2 := Lib.hid (RdN.of_Rd (hr.below hB))
          have hS := flatTo_succ ls q (by rw [HK.out]; exact hlt2)
          have hsz := HLE.out (q + 1)
          rw [hS, List.length_append] at hsz
          have hm2 : m + (ls.getD q []).length ≤ 100000000000 := by rw [hm]; exact hsz
          have HS := Lib.hid hS; have HM := Lib.hid hm; have HOW := Lib.hid hown
          clear hc hr hS hsz hm hown
          generalize ls.getD q [] = y at *
          obtain ⟨ky, hky⟩ : ∃ ky, ky = y.length := ⟨_, rfl⟩
          rw [← hky] at hc2 hr2 hm2
          have HKY := Lib.hid hky
          clear hky
          go_wp2_with (at_builtin; refine wpList_app rfl (.tmp 31) (.tmp 32) 33 rfl w.heap.size 5 i0 (.int .u8 0) 1 1 Try.underlying33 hi hz0 hz1 hz2 rfl (by omega) A2 m c2 _ rfl HOW.out w.heap.size A ky cc _ rfl hr2.out (u8s_one _) (by simp only [maxLen]; omega) (by omega) hs ?_; intro A4 c4 w4 hown4 hg4; have hb4 := below_app hB hg4 HOW.out (Nat.le_refl _) hs)
          go_roundw
          case rel => exact ⟨q + 1, A4, c4, _, by omega, by go_num, rfl, by rw [HS.out, List.length_append, HM.out, HKY.out], by rw [HS.out, u8s_append]; exact hown4, hb4⟩
          case measure => simp [intOf]; omega
        · obtain rfl : q = t := by omega
          have HM := Lib.hid hm
          clear hm
          go_wp2_with fail
          go_ret
          rw [HM.out, HF.out] at hown
          exact ⟨⟨A2, c2, by rw [HM.out, HF.out]; rfl, hown⟩, hB⟩
end Go.Proofs.Ytkgmoklifkojhaa

/- slices.Clone at byte slices; link.Seal, link.Open. Conditions: sizes that fit the memory. -/
namespace Go.Proofs.Ytkgmoklifkojhaa
open Go.RowKit
set_option maxHeartbeats 1000000 in
set_option maxRecDepth 100000 in
theorem clone_any (l : List Int) (A : Option Addr) (n c : Nat) (w : World) (hl : Rd w w.heap.size A n (u8s l)) (hn : n ≤ 100000000000) :
    Calls Try.prog 32 #[.slice A n c] w fun e w' => (∃ A' c', e = .returned (.slice A' n c') ∧ w'.ownsRow w.heap.size 5 1 (.slice A' n c') n (u8s l)) ∧ Below w.heap.size w w' := by
  obtain ⟨i0, hi, hz0, hz1, hz2⟩ := info_parts winfo_u8
  have HL := Lib.hid hl
  clear hl
  have hq : ∀ a n c w, (binOp .eql 33 (.slice a n c) (.slice none 0 0)).run Try.prog w = .ok (.bool a.isNone) w := fun a n c w => Lib.run_eql_slice_nil w _ _ a n c 0 0 Try.underlying33
  rcases A with _ | a
  · have hn0 : n = 0 := by
      rcases Nat.eq_zero_or_pos n with h | h
      · exact h
      · obtain ⟨b, o, h2, _⟩ := HL.out.2 h
        cases h2
    subst hn0
    have hl0 : u8s l = [] := List.eq_nil_of_length_eq_zero HL.out.1
    rw [hl0]
    go_enter Try.func32, Try.ntmps32
    go_wp2_with fail
    go_ret
    exact ⟨⟨none, 0, rfl, World.ownsRow_nil _ _ _ _⟩, Below.refl _ _⟩
  · go_enter Try.func32, Try.ntmps32
    go_wp2_with (at_builtin; refine wpList_app rfl (.tmp 5) (.tmp 6) 33 rfl w.heap.size 5 i0 (.int .u8 0) 1 1 Try.underlying33 hi hz0 hz1 hz2 rfl (by omega) (some ⟨w.heap.size, 0, none⟩) 0 0 [] rfl (own_lit w _ w.heap.size 5 [] _ 0 rfl rfl (Nat.le_refl _) rfl (by decide)) w.heap.size (some a) n c (u8s l) rfl (RdN.of_Rd (HL.out.below ((Ext.refl w).alloc _))) (u8s_one l) (by simp only [maxLen]; omega) (by omega) (by simp) ?_; rw [Nat.zero_add, List.nil_append]; intro A4 c4 w4 hown4 hg4; have hb4 := below_app ((Ext.refl w).alloc (.cells #[] 5)) hg4 (own_lit w _ w.heap.size 5 [] _ 0 rfl rfl (Nat.le_refl _) rfl (by decide)) (Nat.le_refl _) (by simp))
    go_ret
    exact ⟨⟨A4, c4, rfl, hown4⟩, hb4⟩
theorem own_mono {w : World} {b b' : Nat} {e : TypeId} {size : Nat} {v : Value} {n : Nat} {xs : List Value} (h : w.ownsRow b e size v n xs) (hb : b' ≤ b) : w.ownsRow b' e size v n xs :=
  ⟨h.1, h.2.imp id (fun ⟨g, cap, cur, h1, h2, h3⟩ => ⟨g, cap, cur, h1, Nat.le_trans hb h2, h3⟩)⟩
/-- Two slices, one behind the other. -/
theorem concat2_any (l q : List Int) (A : Option Addr) (n c : Nat) (B : Option Addr) (m d : Nat) (W : World) (hl : Rd W W.heap.size A n (u8s l)) (hq : Rd W W.heap.size B m (u8s q)) (hlen : (l ++ q).length ≤ 100000000000) :
    Calls Try.prog 42 #[.slice (some ⟨W.heap.size, 0, none⟩) 2 2] (W.alloc (.cells #[.slice A n c, .slice B m d] 33)) fun e w' => (∃ A' c', e = .returned (.slice A' (l ++ q).length c') ∧ w'.ownsRow W.heap.size 5 1 (.slice A' (l ++ q).length c') (l ++ q).length (u8s (l ++ q))) ∧ Below W.heap.size W w' := by
  have hb := Blk.fresh W 33 [.slice A n c, .slice B m d]
  have hE : Ext W (W.alloc (.cells #[.slice A n c, .slice B m d] 33)) := (Ext.refl W).alloc _
  have hnl : l.length = n := by simpa [u8s] using hl.1
  have hnq : q.length = m := by simpa [u8s] using hq.1
  have hf : [l, q].flatten = l ++ q := by simp
  have h := concat_any [l, q] W.heap.size 0 2 2 (W.alloc (.cells #[.slice A n c, .slice B m d] 33)) (fun j hj => by
    rcases j with _ | _ | j
    · exact ⟨A, c, by have := hb.cell 0; simp only [List.getElem?_cons_zero] at this; rw [show ([l, q].getD 0 []).length = n from hnl]; exact this, by rw [show ([l, q].getD 0 []) = l from rfl, hnl]; exact hl.ext' hE⟩
    · exact ⟨B, d, by have := hb.cell 1; simp only [List.getElem?_cons_succ, List.getElem?_cons_zero] at this; rw [show ([l, q].getD 1 []).length = m from hnq]; exact this, by rw [show ([l, q].getD 1 []) = q from rfl, hnq]; exact hq.ext' hE⟩
    · exact absurd hj (by simp)) hb.lt rfl (by decide) (by rw [hf]; exact hlen)
  rw [hf] at h
  exact h.mono fun e w' ⟨⟨A', c', h1, h2⟩, h3⟩ => ⟨⟨A', c', h1, own_mono h2 (by simp)⟩, hE.next h3⟩
/-- The sealed bytes. -/
def sealL (key : Int) (l : List Int) : List Int := l ++ sealB key l
theorem sealL_length (key : Int) (l : List Int) : (sealL key l).length = l.length + 8 := by simp [sealL, sealB_length]
set_option maxHeartbeats 1000000 in
set_option maxRecDepth 100000 in
theorem lseal_any (key : Int) (k0 : 0 ≤ key) (k1 : key ≤ 18446744073709551615) (l : List Int) (A : Option Addr) (n c : Nat) (w : World) (hl : Rd w w.heap.size A n (u8s l)) (hby : Byt l) (hn : n ≤ 10000000000) :
    Calls Try.prog 24 #[.int .u64 key, .slice A n c] w fun e w' => (∃ A' c', e = .returned (.slice A' (sealL key l).length c') ∧ w'.ownsRow w.heap.size 5 1 (.slice A' (sealL key l).length c') (sealL key l).length (u8s (sealL key l))) ∧ Below w.heap.size w w' := by
  have hlen : l.length = n := by simpa [u8s] using hl.1
  have HL := Lib.hid hl; have HN := Lib.hid hlen; have HBY := Lib.hid hby
  clear hl hby hlen
  obtain ⟨S, hS⟩ : ∃ S, S = sealB key l := ⟨_, rfl⟩
  have HSE : Hid (sealB key l = S) := Lib.hid hS.symm
  have HSL : Hid ((u8s S).length = 8) := Lib.hid (by rw [hS, u8s_length, sealB_length])
  clear hS
  obtain ⟨Z, hZ⟩ : ∃ Z, Z = u8s (List.replicate 8 0) := ⟨_, rfl⟩
  have hzr : ∀ W, (zeroValue 79).run Try.prog W = .ok (.agg Z.toArray) W := by rw [hZ]; exact fun W => by kernel_rfl
  have HZL : Hid (Z.length = 8) := Lib.hid (by rw [hZ]; rfl)
  clear hZ
  go_enter Try.func24, Try.ntmps24
  go_upto_region 2 with (first
    | (go_at_call 41; (with_reducible refine (seal_any key k0 k1 l A n c w HL.out HBY.out (by omega)).mono ?_); rintro e w1 ⟨rfl, hB⟩; rw [HSE.out]; have E1 : Hid (Ext w w1) := Lib.hid hB; clear hB)
    | ((refine wpList_store_fresh rfl 79 (.tmp 5) (.tmp 8) rfl _ w1.heap.size rfl Z (u8s S) 79 (by rfl) (by rfl) rfl (info_8u8.trans (congrArg some HSL.out.symm)) (HZL.out.trans HSL.out.symm) (u8s_one S) ?_); intro w2 hw hE hz; have E2 : Hid (Ext w w2) := Lib.hid (E1.out.next hE); have D5 := Lib.hid hw; obtain ⟨p5, hp5⟩ : ∃ p, p = w1.heap.size := ⟨_, rfl⟩; rw [← hp5] at D5 ⊢; clear hp5 hw hE hz))
  have HB8 : Hid (Rd w2 w2.heap.size (some ⟨p5, 0, none⟩) 8 (u8s S)) := Lib.hid (D5.out.rd HSL.out)
  have HLC : Hid (l ++ S = sealL key l) := Lib.hid (by rw [← HSE.out]; rfl)
  have hlen : (l ++ S).length ≤ 100000000000 := by rw [HLC.out, sealL_length, HN.out]; omega
  go_wp2_with (go_at_call 42; (with_reducible refine (concat2_any l S A n c (some ⟨p5, 0, none⟩) 8 8 w2 (HL.out.ext' E2.out) HB8.out hlen).mono ?_); rintro e w3 ⟨⟨A3, c3, rfl, ho⟩, hB⟩; rw [HLC.out] at ho ⊢; have HO := Lib.hid ho; have E3 : Hid (Ext w w3) := Lib.hid (E2.out.next hB); clear ho hB)
  go_ret
  exact ⟨⟨A3, c3, rfl, own_mono HO.out E2.out.size⟩, E3.out⟩
end Go.Proofs.Ytkgmoklifkojhaa
