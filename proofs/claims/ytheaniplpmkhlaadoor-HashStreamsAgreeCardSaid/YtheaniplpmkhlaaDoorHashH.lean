/- The walks of hash.Equal and of the law package's hex. No condition. -/
import Derived.Test.YtheaniplpmkhlaaDoorWireC
import Derived.Test.YtheaniplpmkhlaaDoorSmallA
namespace Go.Proofs.YtheaniplpmkhlaaDoor
open Go.RowKit
/-- The gathered difference of the first t bytes. -/
def diffTo (a b : List Int) : Nat → Int
  | 0 => 0
  | t + 1 => bits .or .u8 (diffTo a b t) (bits .xor .u8 (a.getD t 0) (b.getD t 0))
theorem nat8 (x : Nat) (h : x < 256) : (BitVec.ofInt 8 (x : Int)).toNat = x := by
  rw [BitVec.ofInt_natCast, BitVec.toNat_ofNat]; exact Nat.mod_eq_of_lt (by omega)
theorem xor_zero_iff (x y : Nat) : x ^^^ y = 0 ↔ x = y := by
  constructor
  · intro h
    have : (x ^^^ y) ^^^ y = 0 ^^^ y := by rw [h]
    rwa [Nat.xor_assoc, Nat.xor_self, Nat.xor_zero, Nat.zero_xor] at this
  · rintro rfl; exact Nat.xor_self _
theorem u8_or_xor (d x y : Int) (hd0 : 0 ≤ d) (hd : d ≤ 255) (hx0 : 0 ≤ x) (hx : x ≤ 255) (hy0 : 0 ≤ y) (hy : y ≤ 255) :
    0 ≤ bits .or .u8 d (bits .xor .u8 x y) ∧ bits .or .u8 d (bits .xor .u8 x y) ≤ 255 ∧ (bits .or .u8 d (bits .xor .u8 x y) = 0 ↔ d = 0 ∧ x = y) := by
  obtain ⟨d', rfl⟩ := Int.eq_ofNat_of_zero_le hd0
  obtain ⟨x', rfl⟩ := Int.eq_ofNat_of_zero_le hx0
  obtain ⟨y', rfl⟩ := Int.eq_ofNat_of_zero_le hy0
  have h1 : bits .xor .u8 (x' : Int) (y' : Int) = ((x' ^^^ y' : Nat) : Int) := by
    have hl : x' ^^^ y' < 2 ^ 8 := Nat.xor_lt_two_pow (by omega) (by omega)
    show IntKind.u8.wrap ((BitVec.ofInt 8 (x' : Int) ^^^ BitVec.ofInt 8 (y' : Int)).toNat : Int) = _
    rw [BitVec.toNat_xor, nat8 x' (by omega), nat8 y' (by omega)]
    simp [IntKind.wrap, IntKind.bits, IntKind.signed]; omega
  have hl : x' ^^^ y' < 2 ^ 8 := Nat.xor_lt_two_pow (by omega) (by omega)
  have hl2 : d' ||| (x' ^^^ y') < 2 ^ 8 := Nat.or_lt_two_pow (by omega) hl
  have h2 : bits .or .u8 (d' : Int) ((x' ^^^ y' : Nat) : Int) = ((d' ||| (x' ^^^ y') : Nat) : Int) := by
    show IntKind.u8.wrap ((BitVec.ofInt 8 (d' : Int) ||| BitVec.ofInt 8 ((x' ^^^ y' : Nat) : Int)).toNat : Int) = _
    rw [BitVec.toNat_or, nat8 d' (by omega), nat8 (x' ^^^ y') (by omega)]
    simp [IntKind.wrap, IntKind.bits, IntKind.signed]; omega
  rw [h1, h2]
  refine ⟨by omega, by omega, ?_⟩
  have e1 : (((d' ||| (x' ^^^ y') : Nat) : Int) = 0) ↔ d' ||| (x' ^^^ y') = 0 := by omega
  rw [e1, Nat.or_eq_zero_iff, xor_zero_iff]
  omega
theorem diffTo_spec (a b : List Int) (ha : Byt a) (hb : Byt b) : ∀ t, 0 ≤ diffTo a b t ∧ diffTo a b t ≤ 255 ∧ (diffTo a b t = 0 ↔ ∀ j, j < t → a.getD j 0 = b.getD j 0)
  | 0 => ⟨by simp [diffTo], by simp [diffTo], by simp [diffTo]⟩
  | t + 1 => by
    obtain ⟨h0, h1, h2⟩ := diffTo_spec a b ha hb t
    obtain ⟨g0, g1, g2⟩ := u8_or_xor (diffTo a b t) (a.getD t 0) (b.getD t 0) h0 h1 (ha.at_ t).1 (ha.at_ t).2 (hb.at_ t).1 (hb.at_ t).2
    refine ⟨g0, g1, g2.trans ?_⟩
    rw [h2]
    constructor
    · rintro ⟨p, q⟩ j hj
      rcases Nat.lt_or_ge j t with h | h
      · exact p j h
      · obtain rfl : j = t := by omega
        exact q
    · intro p
      exact ⟨fun j hj => p j (by omega), p t (by omega)⟩
theorem diffTo_eq (s t : ByteArray) (h : s.size = t.size) : diffTo (bys s) (bys t) s.size = 0 ↔ s = t := by
  rw [(diffTo_spec _ _ (bys_byt s) (bys_byt t) s.size).2.2]
  constructor
  · intro p
    refine bys_inj (List.ext_getElem (by rw [bys_length, bys_length, h]) fun i h1 h2 => ?_)
    have := p i (by rw [bys_length] at h1; exact h1)
    simpa [List.getD_eq_getElem?_getD, List.getElem?_eq_getElem h1, List.getElem?_eq_getElem h2] using this
  · rintro rfl j _
    rfl
set_option maxHeartbeats 400000 in
theorem equal_any (a b : ByteArray) (w : World) (ha : a.size ≤ 9223372036854775807) (hb : b.size ≤ 9223372036854775807) :
    Calls Tryd.prog 24 #[.string a, .string b] w fun e w' => e = .returned (.bool (decide (a = b))) ∧ Drew w w' := by
  by_cases hs : a.size = b.size
  · have HD : Hid (∀ t, diffTo (bys a) (bys b) (t + 1) = bits .or .u8 (diffTo (bys a) (bys b) t) (bits .xor .u8 ((bys a).getD t 0) ((bys b).getD t 0))) := Lib.hid fun _ => rfl
    have HA : Hid (∀ i (h : i < a.size), (a[i].toNat : Int) = (bys a).getD i 0) := Lib.hid (bys_get a)
    have HBB : Hid (∀ i (h : i < b.size), (b[i].toNat : Int) = (bys b).getD i 0) := Lib.hid (bys_get b)
    have HE := Lib.hid (diffTo_eq a b hs)
    have HS := Lib.hid hs
    have hs1 : ((a.size : Int) != (b.size : Int)) = false := by simp [hs]
    clear hs
    go_enter Tryd.func24, Tryd.ntmps24
    go_wp2_with fail
    clear hs1
    go_loopw [14, 5] (fun i d wr => ∃ t : Nat, t ≤ a.size ∧ i = .int .i64 t ∧ d = .int .u8 (diffTo (bys a) (bys b) t) ∧ Drew w wr) (fun i _ _ => a.size - (intOf i).toNat)
    case atStart => exact ⟨0, Nat.zero_le _, rfl, rfl, Drew.refl _⟩
    case round =>
      obtain ⟨t, ht, rfl, rfl, hd⟩ := hrel
      by_cases hlt : t < a.size
      · have hlt2 : t < b.size := by rw [← HS.out]; exact hlt
        have hx := HA.out t hlt
        have hy := HBB.out t hlt2
        have HD2 := Lib.hid (HD.out t)
        generalize diffTo (bys a) (bys b) t = d at *
        generalize (bys a).getD t 0 = x at *
        generalize (bys b).getD t 0 = y at *
        go_wp2_with fail
        obtain ⟨wz, rfl⟩ : ∃ x : World, x = wr := ⟨_, rfl⟩
        go_quiet (fail)
        go_wp2_with fail
        exact ⟨⟨t + 1, by omega, by go_num, by rw [HD2.out], hd.trans (Drew.mk _ _)⟩, by simp [intOf]; omega⟩
      · obtain rfl : t = a.size := by omega
        generalize diffTo (bys a) (bys b) a.size = d at *
        have HDR := Lib.hid hd
        go_wp2_with fail
        go_ret
        have hq : (d == 0) = decide (a = b) := by
          rw [Bool.eq_iff_iff]; simp [HE.out]
        exact ⟨by rw [← hq]; rfl, hd⟩
  · have HS : Hid (decide (a = b) = false) := Lib.hid (by
      rw [decide_eq_false_iff_not]
      rintro rfl
      exact hs rfl)
    have hs1 : ((a.size : Int) != (b.size : Int)) = true := by
      rw [bne_iff_ne]; omega
    clear hs
    go_enter Tryd.func24, Tryd.ntmps24
    go_wp2_with fail
    go_ret
    exact ⟨by rw [HS.out]; rfl, Drew.refl _⟩
def hexD (n : Int) : Int := if n < 10 then 48 + n else 87 + n
def hexL : List Int → List Int
  | [] => []
  | x :: r => hexD (x / 16) :: hexD (x % 16) :: hexL r
theorem hexL_length (l : List Int) : (hexL l).length = 2 * l.length := by
  induction l with
  | nil => rfl
  | cons x r ih => simp [hexL, ih]; omega
theorem hexL_append (a b : List Int) : hexL (a ++ b) = hexL a ++ hexL b := by
  induction a with
  | nil => rfl
  | cons x r ih => simp [hexL, ih]
theorem hexL_take (l : List Int) (t : Nat) (h : t < l.length) : hexL (l.take (t + 1)) = hexL (l.take t) ++ [hexD (l.getD t 0 / 16), hexD (l.getD t 0 % 16)] := by
  have : l[t]? = some (l.getD t 0) := by simp [List.getD_eq_getElem?_getD, List.getElem?_eq_getElem h]
  rw [List.take_add_one, this, hexL_append]
  simp [hexL]
theorem hex_el (k : Nat) (h : k < 16) : ((((⟨#[48, 49, 50, 51, 52, 53, 54, 55, 56, 57, 97, 98, 99, 100, 101, 102]⟩ : ByteArray)[k]'h).toNat : Nat) : Int) = hexD (k : Int) :=
  (by decide +kernel : ∀ k : Fin 16, ((((⟨#[48, 49, 50, 51, 52, 53, 54, 55, 56, 57, 97, 98, 99, 100, 101, 102]⟩ : ByteArray)[k.val]'k.isLt).toNat : Nat) : Int) = hexD (k.val : Int)) ⟨k, h⟩
theorem hex_q (x : Int) (h0 : 0 ≤ x) (h1 : x ≤ 255) : ∃ q r : Nat, q < 16 ∧ r < 16 ∧ IntKind.u8.wrap (x.tdiv 16) = (q : Int) ∧ x.tmod 16 = (r : Int) ∧ x / 16 = (q : Int) ∧ x % 16 = (r : Int) := by
  obtain ⟨a, rfl⟩ := Int.eq_ofNat_of_zero_le h0
  have e1 : (a : Int).tdiv 16 = ((a / 16 : Nat) : Int) := rfl
  have e2 : (a : Int).tmod 16 = ((a % 16 : Nat) : Int) := rfl
  refine ⟨a / 16, a % 16, by omega, by omega, ?_, ?_, rfl, rfl⟩
  · rw [e1]; simp [IntKind.wrap, IntKind.bits, IntKind.signed]; omega
  · rw [e2]
set_option maxHeartbeats 400000 in
theorem hex_any (s : ByteArray) (w : World) (hs : s.size ≤ 1000000000) :
    Calls Tryd.prog 25 #[.string s] w fun e w' => e = .returned (.string (strOf (hexL (bys s)))) ∧ Below w.heap.size w w' := by
  obtain ⟨i0, hi, hz0, hz1, hz2⟩ := info_parts winfo_u8
  have HA : Hid (∀ i (h : i < s.size), (s[i].toNat : Int) = (bys s).getD i 0) := Lib.hid (bys_get s)
  have HT : Hid (∀ t, t < s.size → hexL ((bys s).take (t + 1)) = hexL ((bys s).take t) ++ [hexD ((bys s).getD t 0 / 16), hexD ((bys s).getD t 0 % 16)]) := Lib.hid (fun t h => hexL_take (bys s) t (by rw [bys_length]; exact h))
  have HT0 : Hid (u8s (hexL ((bys s).take 0)) = []) := Lib.hid (by simp [hexL, u8s])
  have HN : Hid ((bys s).take s.size = bys s) := Lib.hid (List.take_of_length_le (by rw [bys_length]; omega))
  have HBY := Lib.hid (bys_byt s)
  go_enter Tryd.func25, Tryd.ntmps25
  go_wp2_with fail
  go_loopw [5, 4] (fun i s4 wr => ∃ (t : Nat) (A : Option Addr) (c : Nat), t ≤ s.size ∧ i = .int .i64 t ∧ s4 = .slice A (2 * t) c ∧ wr.ownsRow w.heap.size 5 1 (.slice A (2 * t) c) (2 * t) (u8s (hexL ((bys s).take t))) ∧ Below w.heap.size w wr) (fun i _ _ => s.size - (intOf i).toNat)
  case atStart => exact ⟨0, none, 0, Nat.zero_le _, rfl, rfl, by rw [HT0.out]; exact World.ownsRow_nil _ _ _ _, Below.refl _ _⟩
  case round =>
    obtain ⟨t, A, c, ht, rfl, rfl, hown, hB⟩ := hrel
    have hsz := hB.size
    by_cases hlt : t < s.size
    · have hx := HA.out t hlt
      have hxb := HBY.out.at_ t
      have HT2 := Lib.hid (HT.out t hlt)
      generalize (bys s).getD t 0 = x at *
      go_wp2_with fail
      obtain ⟨wz, rfl⟩ : ∃ x : World, x = wr := ⟨_, rfl⟩
      obtain ⟨q, r, hq, hr, hq1, hr1, hq2, hr2⟩ := hex_q x hxb.1 hxb.2
      rw [hq2, hr2] at HT2
      have el := hex_el
      have hqi : (q : Int) < 16 := by omega
      have hri : (r : Int) < 16 := by omega
      clear hq2 hr2
      go_region_law (refine step_app rfl (.tmp 12) (.tmp 25) 22 rfl w.heap.size 5 i0 (.int .u8 0) 1 1 Tryd.underlying22 hi hz0 hz1 hz2 rfl (by omega) A (2 * t) c _ (by simp [Act.eval]) (hown.drew.alloc _) (wz.heap.size + 1) _ 2 2 [.int .u8 (hexD q), .int .u8 (hexD r)] (by simp [Act.eval]) (RdN.fresh [_, _] _ _ 1 2 rfl rfl rfl) (u8s_one [_, _]) (by simp only [maxLen]; omega) (by omega) (by simp; omega) ?_; intro A4 c4 w4 hown4 hg4; have hb4 := below_app (hB.drew.alloc hsz _) hg4 (hown.drew.alloc _) (Nat.le_refl _) (by simp; omega))
      all_goals
        go_wp2_with fail
        go_roundw
        case rel => exact ⟨t + 1, A4, c4, by omega, by go_num, rfl, by rw [HT2.out, u8s_append]; exact hown4, hb4⟩
        case measure => simp [intOf]; omega
    · obtain rfl : t = s.size := by omega
      have hcv := run_toStr (P := Tryd.prog) Tryd.underlying22 Tryd.underlying5 Tryd.underlying9 (Rd.of_own hown) c (opt_cases A _)
      rw [HN.out] at hcv
      go_wp2_with fail
      go_ret
      exact ⟨rfl, hB⟩
end Go.Proofs.YtheaniplpmkhlaaDoor
