/- SHA-256's compression in the form that the kernel computes fast; it is the specification's. No condition. -/
import Derived.Test.YtkjckmdiolgmcaaDoorHashSpec
import Derived.Laws.BitsAllLaws
set_option linter.unusedSimpArgs false
set_option linter.unusedVariables false
namespace Go.Proofs.YtkjckmdiolgmcaaDoor
open Go.RowKit
def MN : Nat := 4294967296
def rrN (x n : Nat) : Nat := Nat.lor (Nat.mod (Nat.shiftLeft x (Nat.sub 32 n)) MN) (Nat.shiftRight x n)
def bS1 (x : Nat) : Nat := Nat.xor (Nat.xor (rrN x 6) (rrN x 11)) (rrN x 25)
def bS0 (x : Nat) : Nat := Nat.xor (Nat.xor (rrN x 2) (rrN x 13)) (rrN x 22)
def ls0 (x : Nat) : Nat := Nat.xor (Nat.xor (rrN x 7) (rrN x 18)) (Nat.shiftRight x 3)
def ls1 (x : Nat) : Nat := Nat.xor (Nat.xor (rrN x 17) (rrN x 19)) (Nat.shiftRight x 10)
def chN (e f g : Nat) : Nat := Nat.xor (Nat.land e f) (Nat.land (Nat.xor 4294967295 e) g)
def mjN (a b c : Nat) : Nat := Nat.xor (Nat.xor (Nat.land a b) (Nat.land a c)) (Nat.land b c)
/-- k of x, x reckoned first. -/
def force {α : Type} (x : Nat) (k : Nat → α) : α := Nat.rec (motive := fun _ => α) (k 0) (fun n _ => k (Nat.succ n)) x
theorem force_eq {α : Type} (x : Nat) (k : Nat → α) : force x k = k x := by cases x <;> rfl
theorem rrN_lt (x n : Nat) (hx : x < 4294967296) : rrN x n < 4294967296 := by
  have h1 : Nat.mod (Nat.shiftLeft x (Nat.sub 32 n)) MN < 2 ^ 32 := Nat.mod_lt _ (by decide)
  have h2 : Nat.shiftRight x n < 2 ^ 32 := by
    show x >>> n < 2 ^ 32
    rw [Nat.shiftRight_eq_div_pow]
    exact Nat.lt_of_le_of_lt (Nat.div_le_self _ _) hx
  exact Nat.or_lt_two_pow h1 h2
theorem rot_nat (x n : Nat) (hx : x < 4294967296) (h1 : 1 ≤ n) (h2 : n ≤ 31) : rot (x : Int) (32 - (n : Int)) = ((rrN x n : Nat) : Int) := by
  unfold rot rrN
  have e1 : (32 - (n : Int)).toNat = 32 - n := by omega
  have e2 : (32 - (32 - (n : Int))).toNat = n := by omega
  have e3 : IntKind.u32.wrap ((x : Int) * 2 ^ (32 - n)) = ((x * 2 ^ (32 - n) % 4294967296 : Nat) : Int) := by
    rw [IntKind.wrap_u32', Int.natCast_emod, Int.natCast_mul, Int.natCast_pow]
    rfl
  have e4 : (x : Int) / 2 ^ n = ((x / 2 ^ n : Nat) : Int) := by rw [Int.natCast_ediv, Int.natCast_pow]; rfl
  rw [e1, e2, e3, e4, u32_or_nat _ _ (Nat.mod_lt _ (by decide)) (Nat.lt_of_le_of_lt (Nat.div_le_self _ _) hx)]
  show _ = ((((x <<< (32 - n)) % 4294967296) ||| (x >>> n) : Nat) : Int)
  rw [Nat.shiftLeft_eq, Nat.shiftRight_eq_div_pow]
theorem xor_nat (a b : Nat) (ha : a < 4294967296) (hb : b < 4294967296) : xor32 (a : Int) (b : Int) = ((Nat.xor a b : Nat) : Int) := u32_xor_nat a b ha hb
theorem and_nat (a b : Nat) (ha : a < 4294967296) (hb : b < 4294967296) : and32 (a : Int) (b : Int) = ((Nat.land a b : Nat) : Int) := u32_and_nat a b ha hb
theorem xor_ltN {a b : Nat} (ha : a < 4294967296) (hb : b < 4294967296) : Nat.xor a b < 4294967296 := Nat.xor_lt_two_pow (n := 32) ha hb
theorem and_ltN {a b : Nat} (hb : b < 4294967296) : Nat.land a b < 4294967296 := Nat.and_lt_two_pow (n := 32) a hb
theorem mix_nat (x i j k : Nat) (hx : x < 4294967296) (hi : 1 ≤ i ∧ i ≤ 31) (hj : 1 ≤ j ∧ j ≤ 31) (hk : 1 ≤ k ∧ k ≤ 31) : mixI (x : Int) i j k = ((Nat.xor (Nat.xor (rrN x i) (rrN x j)) (rrN x k) : Nat) : Int) := by
  unfold mixI
  rw [rot_nat x i hx hi.1 hi.2, rot_nat x j hx hj.1 hj.2, rot_nat x k hx hk.1 hk.2, xor_nat _ _ (rrN_lt x i hx) (rrN_lt x j hx), xor_nat _ _ (xor_ltN (rrN_lt x i hx) (rrN_lt x j hx)) (rrN_lt x k hx)]
def x1N (e f g h k w : Nat) : Nat := Nat.mod (Nat.add (Nat.add (Nat.add (Nat.add h (bS1 e)) (chN e f g)) k) w) MN
def y1N (a b c : Nat) : Nat := Nat.mod (Nat.add (bS0 a) (mjN a b c)) MN
def wnN (w0 w1 w9 w14 : Nat) : Nat := Nat.mod (Nat.add (Nat.add (Nat.add w0 (ls0 w1)) w9) (ls1 w14)) MN
def stN (a b c d e f g h : Nat) : St := ⟨a, b, c, d, e, f, g, h⟩
theorem x1_nat (e f g h k w : Nat) (he : e < 4294967296) (hf : f < 4294967296) (hg : g < 4294967296) : xOf (e : Int) f g h k w = ((x1N e f g h k w : Nat) : Int) := by
  have e1 : not32 (e : Int) = ((Nat.xor 4294967295 e : Nat) : Int) := u32_xor_nat 4294967295 e (by decide) he
  unfold xOf x1N bS1 chN
  rw [e1, and_nat e f he hf, and_nat _ g (xor_ltN (by decide) he) hg, xor_nat _ _ (and_ltN hf) (and_ltN hg)]
  have e2 := mix_nat e 6 11 25 he (by decide) (by decide) (by decide)
  have e3 : mixI (e : Int) 6 11 25 = mixI (e : Int) ((6 : Nat) : Int) ((11 : Nat) : Int) ((25 : Nat) : Int) := rfl
  rw [e3, e2]
  generalize Nat.xor (Nat.xor (rrN e 6) (rrN e 11)) (rrN e 25) = A
  generalize Nat.xor (Nat.land e f) (Nat.land (Nat.xor 4294967295 e) g) = B
  show ((h : Int) + A + B + k + w) % 4294967296 = (((h + A + B + k + w) % 4294967296 : Nat) : Int)
  omega
theorem y1_nat (a b c : Nat) (ha : a < 4294967296) (hb : b < 4294967296) (hc : c < 4294967296) : yOf (a : Int) b c = ((y1N a b c : Nat) : Int) := by
  unfold yOf y1N bS0 mjN
  rw [and_nat a b ha hb, and_nat a c ha hc, and_nat b c hb hc, xor_nat _ _ (and_ltN hb) (and_ltN hc), xor_nat _ _ (xor_ltN (and_ltN hb) (and_ltN hc)) (and_ltN hc)]
  have e2 := mix_nat a 2 13 22 ha (by decide) (by decide) (by decide)
  have e3 : mixI (a : Int) 2 13 22 = mixI (a : Int) ((2 : Nat) : Int) ((13 : Nat) : Int) ((22 : Nat) : Int) := rfl
  rw [e3, e2]
  generalize Nat.xor (Nat.xor (rrN a 2) (rrN a 13)) (rrN a 22) = A
  generalize Nat.xor (Nat.xor (Nat.land a b) (Nat.land a c)) (Nat.land b c) = B
  show ((A : Int) + B) % 4294967296 = (((A + B) % 4294967296 : Nat) : Int)
  omega
theorem s0_nat (x : Nat) (hx : x < 4294967296) : sig0 (x : Int) = ((ls0 x : Nat) : Int) := by
  unfold sig0 ls0
  have r1 : rot (x : Int) 25 = ((rrN x 7 : Nat) : Int) := rot_nat x 7 hx (by decide) (by decide)
  have r2 : rot (x : Int) 14 = ((rrN x 18 : Nat) : Int) := rot_nat x 18 hx (by decide) (by decide)
  have r3 : (x : Int) / 8 = ((Nat.shiftRight x 3 : Nat) : Int) := by
    show _ = ((x >>> 3 : Nat) : Int)
    rw [Nat.shiftRight_eq_div_pow]; omega
  have l3 : Nat.shiftRight x 3 < 4294967296 := by
    show x >>> 3 < _
    rw [Nat.shiftRight_eq_div_pow]; exact Nat.lt_of_le_of_lt (Nat.div_le_self _ _) hx
  rw [r1, r2, r3, xor_nat _ _ (rrN_lt x 7 hx) (rrN_lt x 18 hx), xor_nat _ _ (xor_ltN (rrN_lt x 7 hx) (rrN_lt x 18 hx)) l3]
theorem s1_nat (x : Nat) (hx : x < 4294967296) : sig1 (x : Int) = ((ls1 x : Nat) : Int) := by
  unfold sig1 ls1
  have r1 : rot (x : Int) 15 = ((rrN x 17 : Nat) : Int) := rot_nat x 17 hx (by decide) (by decide)
  have r2 : rot (x : Int) 13 = ((rrN x 19 : Nat) : Int) := rot_nat x 19 hx (by decide) (by decide)
  have r3 : (x : Int) / 1024 = ((Nat.shiftRight x 10 : Nat) : Int) := by
    show _ = ((x >>> 10 : Nat) : Int)
    rw [Nat.shiftRight_eq_div_pow]; omega
  have l3 : Nat.shiftRight x 10 < 4294967296 := by
    show x >>> 10 < _
    rw [Nat.shiftRight_eq_div_pow]; exact Nat.lt_of_le_of_lt (Nat.div_le_self _ _) hx
  rw [r1, r2, r3, xor_nat _ _ (rrN_lt x 17 hx) (rrN_lt x 19 hx), xor_nat _ _ (xor_ltN (rrN_lt x 17 hx) (rrN_lt x 19 hx)) l3]
def kcN : List Nat := [1116352408, 1899447441, 3049323471, 3921009573, 961987163, 1508970993, 2453635748, 2870763221, 3624381080, 310598401, 607225278, 1426881987, 1925078388, 2162078206, 2614888103, 3248222580, 3835390401, 4022224774, 264347078, 604807628, 770255983, 1249150122, 1555081692, 1996064986, 2554220882, 2821834349, 2952996808, 3210313671, 3336571891, 3584528711, 113926993, 338241895, 666307205, 773529912, 1294757372, 1396182291, 1695183700, 1986661051, 2177026350, 2456956037, 2730485921, 2820302411, 3259730800, 3345764771, 3516065817, 3600352804, 4094571909, 275423344, 430227734, 506948616, 659060556, 883997877, 958139571, 1322822218, 1537002063, 1747873779, 1955562222, 2024104815, 2227730452, 2361852424, 2428436474, 2756734187, 3204031479, 3329325298]
theorem kcN_eq (t : Nat) : kc.getD t 0 = ((kcN.getD t 0 : Nat) : Int) := by
  have h : kc = kcN.map (fun n : Nat => (n : Int)) := by decide
  rw [h, List.getD_eq_getElem?_getD, List.getD_eq_getElem?_getD, List.getElem?_map]
  cases kcN[t]? <;> rfl
def runN {α : Type} : List Nat → (w0 w1 w2 w3 w4 w5 w6 w7 w8 w9 w10 w11 w12 w13 w14 w15 a b c d e f g h : Nat) → (Nat → Nat → Nat → Nat → Nat → Nat → Nat → Nat → α) → α
  | [], _, _, _, _, _, _, _, _, _, _, _, _, _, _, _, _, a, b, c, d, e, f, g, h, K => K a b c d e f g h
  | k :: ks, w0, w1, w2, w3, w4, w5, w6, w7, w8, w9, w10, w11, w12, w13, w14, w15, a, b, c, d, e, f, g, h, K =>
    force (x1N e f g h k w0) fun x => force (Nat.mod (Nat.add x (y1N a b c)) MN) fun a' => force (Nat.mod (Nat.add d x) MN) fun e' => force (wnN w0 w1 w9 w14) fun wn =>
      runN ks w1 w2 w3 w4 w5 w6 w7 w8 w9 w10 w11 w12 w13 w14 w15 wn a' a b c e' e f g K
/-- The t-th word of the schedule. -/
def Wd (l : List Int) (t : Nat) : Int := nextW l (wl l t) t
theorem Wd_next (l : List Int) (t : Nat) : Wd l (t + 16) = (Wd l t + sig0 (Wd l (t + 1)) + Wd l (t + 9) + sig1 (Wd l (t + 14))) % 4294967296 := by
  have h : ∀ j, j < 16 → (wl l (t + 16)).getD (t + j) 0 = Wd l (t + j) := fun j hj => wl_get l (t + 16) (t + j) (by omega)
  show nextW l (wl l (t + 16)) (t + 16) = _
  unfold nextW
  rw [if_neg (by omega), show t + 16 - 16 = t + 0 by omega, show t + 16 - 15 = t + 1 by omega, show t + 16 - 7 = t + 9 by omega, show t + 16 - 2 = t + 14 by omega, h 0 (by decide), h 1 (by decide), h 9 (by decide), h 14 (by decide), Nat.add_zero]
theorem mod_ltN (x : Nat) : Nat.mod x MN < 4294967296 := Nat.mod_lt _ (by decide)
def Win (L : List Nat) (l : List Int) (t : Nat) : Prop := L.length = 16 ∧ ∀ j, j < 16 → ((L.getD j 0 : Nat) : Int) = Wd l (t + j) ∧ L.getD j 0 < 4294967296
theorem Win.shift {l : List Int} {t x : Nat} {L : List Nat} (h : Win L l t) (hx : (x : Int) = Wd l (t + 16)) (hb : x < 4294967296) : Win (L.tail ++ [x]) l (t + 1) := by
  obtain ⟨hL, hw⟩ := h
  have hT : L.tail.length = 15 := by simp [hL]
  refine ⟨by simp [hT], fun j hj => ?_⟩
  by_cases h : j < 15
  · have e : (L.tail ++ [x]).getD j 0 = L.getD (j + 1) 0 := by
      rw [List.getD_eq_getElem?_getD, List.getD_eq_getElem?_getD, List.getElem?_append_left (by omega), List.getElem?_tail]
    have h2 := hw (j + 1) (by omega)
    rw [e, show t + 1 + j = t + (j + 1) by omega]
    exact h2
  · obtain rfl : j = 15 := by omega
    have e : (L.tail ++ [x]).getD 15 0 = x := by
      rw [List.getD_eq_getElem?_getD, List.getElem?_append_right (by omega), hT]; rfl
    rw [e]
    exact ⟨hx, hb⟩
structure B8 (a b c d e f g h : Nat) : Prop where
  a : a < 4294967296
  b : b < 4294967296
  c : c < 4294967296
  d : d < 4294967296
  e : e < 4294967296
  f : f < 4294967296
  g : g < 4294967296
  h : h < 4294967296
theorem round_nat {l : List Int} {s : St} {t : Nat} (ht : t < 64) {w0 a b c d e f g h : Nat} (hw : (w0 : Int) = Wd l t) (hb : B8 a b c d e f g h) (hs : rounds_ l s t = stN a b c d e f g h) :
    rounds_ l s (t + 1) = stN (Nat.mod (Nat.add (x1N e f g h (kcN.getD t 0) w0) (y1N a b c)) MN) a b c (Nat.mod (Nat.add d (x1N e f g h (kcN.getD t 0) w0)) MN) e f g := by
  show stepI (rounds_ l s t) (kc.getD t 0) ((wl l 64).getD t 0) = _
  have e1 : (wl l 64).getD t 0 = (w0 : Int) := (wl_get l 64 t (by omega)).trans hw.symm
  rw [hs, e1, kcN_eq]
  generalize kcN.getD t 0 = k
  unfold stepI stN
  simp only
  rw [x1_nat e f g h k w0 hb.e hb.f hb.g, y1_nat a b c hb.a hb.b hb.c]
  generalize x1N e f g h k w0 = x
  generalize y1N a b c = y
  have e2 : ((x : Int) + y) % 4294967296 = ((Nat.mod (Nat.add x y) MN : Nat) : Int) := by show _ = (((x + y) % 4294967296 : Nat) : Int); omega
  have e3 : ((d : Int) + x) % 4294967296 = ((Nat.mod (Nat.add d x) MN : Nat) : Int) := by show _ = (((d + x) % 4294967296 : Nat) : Int); omega
  rw [e2, e3]
theorem next_nat {l : List Int} {t w0 w1 w9 w14 : Nat} (h0 : (w0 : Int) = Wd l t) (h1 : (w1 : Int) = Wd l (t + 1)) (h9 : (w9 : Int) = Wd l (t + 9)) (h14 : (w14 : Int) = Wd l (t + 14)) (b1 : w1 < 4294967296) (b14 : w14 < 4294967296) : ((wnN w0 w1 w9 w14 : Nat) : Int) = Wd l (t + 16) := by
  rw [Wd_next, ← h0, ← h1, ← h9, ← h14, s0_nat w1 b1, s1_nat w14 b14]
  unfold wnN
  generalize ls0 w1 = A
  generalize ls1 w14 = B
  show (((w0 + A + w9 + B) % 4294967296 : Nat) : Int) = _
  omega
theorem runN_cons {α : Type} (k : Nat) (ks : List Nat) (w0 w1 w2 w3 w4 w5 w6 w7 w8 w9 w10 w11 w12 w13 w14 w15 a b c d e f g h : Nat) (K : Nat → Nat → Nat → Nat → Nat → Nat → Nat → Nat → α) :
    runN (k :: ks) w0 w1 w2 w3 w4 w5 w6 w7 w8 w9 w10 w11 w12 w13 w14 w15 a b c d e f g h K =
    runN ks w1 w2 w3 w4 w5 w6 w7 w8 w9 w10 w11 w12 w13 w14 w15 (wnN w0 w1 w9 w14) (Nat.mod (Nat.add (x1N e f g h k w0) (y1N a b c)) MN) a b c (Nat.mod (Nat.add d (x1N e f g h k w0)) MN) e f g K := by
  rw [runN]
  rw [force_eq, force_eq, force_eq, force_eq]
theorem kcN_drop {t : Nat} (ht : t < 64) : kcN.drop t = kcN.getD t 0 :: kcN.drop (t + 1) := by
  have hl : t < kcN.length := ht
  rw [List.drop_eq_getElem_cons hl, List.getD_eq_getElem?_getD, List.getElem?_eq_getElem hl]; rfl
theorem runN_eq {α : Type} (l : List Int) (s : St) (K : Nat → Nat → Nat → Nat → Nat → Nat → Nat → Nat → α) (n : Nat) : ∀ (t : Nat), t + n = 64 → ∀ (w0 w1 w2 w3 w4 w5 w6 w7 w8 w9 w10 w11 w12 w13 w14 w15 a b c d e f g h : Nat),
    Win [w0, w1, w2, w3, w4, w5, w6, w7, w8, w9, w10, w11, w12, w13, w14, w15] l t → B8 a b c d e f g h → rounds_ l s t = stN a b c d e f g h →
    ∃ a' b' c' d' e' f' g' h' : Nat, B8 a' b' c' d' e' f' g' h' ∧ rounds_ l s 64 = stN a' b' c' d' e' f' g' h' ∧ runN (kcN.drop t) w0 w1 w2 w3 w4 w5 w6 w7 w8 w9 w10 w11 w12 w13 w14 w15 a b c d e f g h K = K a' b' c' d' e' f' g' h' := by
  induction n with
  | zero =>
    intro t ht w0 w1 w2 w3 w4 w5 w6 w7 w8 w9 w10 w11 w12 w13 w14 w15 a b c d e f g h hw hb hs
    obtain rfl : t = 64 := by omega
    exact ⟨a, b, c, d, e, f, g, h, hb, hs, rfl⟩
  | succ n ih =>
    intro t ht w0 w1 w2 w3 w4 w5 w6 w7 w8 w9 w10 w11 w12 w13 w14 w15 a b c d e f g h hw hb hs
    have h0 := hw.2 0 (by decide)
    have h1 := hw.2 1 (by decide)
    have h9 := hw.2 9 (by decide)
    have h14 := hw.2 14 (by decide)
    have hwn := next_nat (l := l) (t := t) (w0 := w0) (w1 := w1) (w9 := w9) (w14 := w14) h0.1 h1.1 h9.1 h14.1 h1.2 h14.2
    have hr := round_nat (by omega) (w0 := w0) h0.1 hb hs
    have hW : Win [w1, w2, w3, w4, w5, w6, w7, w8, w9, w10, w11, w12, w13, w14, w15, wnN w0 w1 w9 w14] l (t + 1) := hw.shift hwn (mod_ltN _)
    rw [kcN_drop (by omega), runN_cons]
    exact ih (t + 1) (by omega) _ _ _ _ _ _ _ _ _ _ _ _ _ _ _ _ _ _ _ _ _ _ _ _ hW ⟨mod_ltN _, hb.a, hb.b, hb.c, mod_ltN _, hb.e, hb.f, hb.g⟩ hr
end Go.Proofs.YtkjckmdiolgmcaaDoor
