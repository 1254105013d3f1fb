/- SHA-256 as a plain function on lists of integers (words and bytes as the machine holds them). No condition. -/
import Derived.Test.YtkjckmdiolgmcaaDoorGA
set_option linter.unusedSimpArgs false
set_option linter.unusedVariables false
namespace Go.Proofs.YtkjckmdiolgmcaaDoor
open Go.RowKit

/-- Sum, modulo 2^32. -/
def add32 (a b : Int) : Int := (a + b) % 4294967296
def xor32 (a b : Int) : Int := bits .xor .u32 a b
def and32 (a b : Int) : Int := bits .and .u32 a b
def not32 (a : Int) : Int := bits .xor .u32 IntKind.u32.max a
/-- Left rotation by s, 1 ≤ s ≤ 31. -/
def rot (x s : Int) : Int := bits .or .u32 (IntKind.u32.wrap (x * 2 ^ s.toNat)) (x / 2 ^ (32 - s).toNat)
def mixI (x i j k : Int) : Int := xor32 (xor32 (rot x (32 - i)) (rot x (32 - j))) (rot x (32 - k))
def sig0 (p : Int) : Int := xor32 (xor32 (rot p 25) (rot p 14)) (p / 8)
def sig1 (p : Int) : Int := xor32 (xor32 (rot p 15) (rot p 13)) (p / 1024)
/-- The t-th word of a block, big-endian. -/
def wordAt (l : List Int) (t : Nat) : Int := 16777216 * l.getD (4 * t) 0 + 65536 * l.getD (4 * t + 1) 0 + 256 * l.getD (4 * t + 2) 0 + l.getD (4 * t + 3) 0
/-- The next word of the message schedule behind the first t ones. -/
def nextW (l ws : List Int) (t : Nat) : Int :=
  if t < 16 then wordAt l t else (ws.getD (t - 16) 0 + sig0 (ws.getD (t - 15) 0) + ws.getD (t - 7) 0 + sig1 (ws.getD (t - 2) 0)) % 4294967296
/-- The first t words of the schedule. -/
def wl (l : List Int) : Nat → List Int
  | 0 => []
  | t + 1 => wl l t ++ [nextW l (wl l t) t]
theorem wl_length (l : List Int) (t : Nat) : (wl l t).length = t := by
  induction t with
  | zero => rfl
  | succ t ih => simp [wl, ih]
theorem wl_get (l : List Int) (t j : Nat) (h : j < t) : (wl l t).getD j 0 = nextW l (wl l j) j := by
  induction t with
  | zero => omega
  | succ t ih =>
    simp only [wl]
    rcases Nat.lt_or_ge j t with hj | hj
    · rw [List.getD_eq_getElem?_getD, List.getElem?_append_left (by rw [wl_length]; exact hj), ← List.getD_eq_getElem?_getD]
      exact ih hj
    · obtain rfl : j = t := by omega
      rw [List.getD_eq_getElem?_getD, List.getElem?_append_right (by rw [wl_length]; omega)]
      simp [wl_length]
/-- The eight words of a hash value. -/
structure St where
  (a b c d e f g h : Int)
def xOf (e f g h k w : Int) : Int := (h + mixI e 6 11 25 + xor32 (and32 e f) (and32 (not32 e) g) + k + w) % 4294967296
def yOf (a b c : Int) : Int := (mixI a 2 13 22 + xor32 (xor32 (and32 a b) (and32 a c)) (and32 b c)) % 4294967296
/-- One round. -/
def stepI (s : St) (k w : Int) : St :=
  let x := xOf s.e s.f s.g s.h k w
  ⟨(x + yOf s.a s.b s.c) % 4294967296, s.a, s.b, s.c, (s.d + x) % 4294967296, s.e, s.f, s.g⟩
def kc : List Int := [1116352408, 1899447441, 3049323471, 3921009573, 961987163, 1508970993, 2453635748, 2870763221, 3624381080, 310598401, 607225278, 1426881987, 1925078388, 2162078206, 2614888103, 3248222580, 3835390401, 4022224774, 264347078, 604807628, 770255983, 1249150122, 1555081692, 1996064986, 2554220882, 2821834349, 2952996808, 3210313671, 3336571891, 3584528711, 113926993, 338241895, 666307205, 773529912, 1294757372, 1396182291, 1695183700, 1986661051, 2177026350, 2456956037, 2730485921, 2820302411, 3259730800, 3345764771, 3516065817, 3600352804, 4094571909, 275423344, 430227734, 506948616, 659060556, 883997877, 958139571, 1322822218, 1537002063, 1747873779, 1955562222, 2024104815, 2227730452, 2361852424, 2428436474, 2756734187, 3204031479, 3329325298]
/-- t rounds. -/
def rounds_ (l : List Int) (s : St) : Nat → St
  | 0 => s
  | t + 1 => stepI (rounds_ l s t) (kc.getD t 0) ((wl l 64).getD t 0)
def addSt (s v : St) : St := ⟨add32 s.a v.a, add32 s.b v.b, add32 s.c v.c, add32 s.d v.d, add32 s.e v.e, add32 s.f v.f, add32 s.g v.g, add32 s.h v.h⟩
/-- The compression of a block of 64 bytes. -/
def compI (s : St) (l : List Int) : St := addSt s (rounds_ l s 64)
def St.list (s : St) : List Int := [s.a, s.b, s.c, s.d, s.e, s.f, s.g, s.h]
def u32s (l : List Int) : List Value := l.map (Value.int .u32)
theorem u32s_get (l : List Int) (j : Nat) (h : j < l.length) : (u32s l)[j]? = some (.int .u32 (l.getD j 0)) := by
  simp [u32s, List.getElem?_map, List.getD_eq_getElem?_getD, List.getElem?_eq_getElem h]
/-- 'acc << 8 | x' -/
def shift8 (acc x : Int) : Int := bits .or .u32 (acc * 256) x
theorem shift8_eq (acc x : Int) (h0 : 0 ≤ acc) (h1 : acc < 16777216) (x0 : 0 ≤ x) (x1 : x ≤ 255) : shift8 acc x = 256 * acc + x := by
  unfold shift8
  obtain ⟨a, rfl⟩ := Int.eq_ofNat_of_zero_le h0
  obtain ⟨b, rfl⟩ := Int.eq_ofNat_of_zero_le x0
  have e : ((a : Int) * 256) = ((a * 256 : Nat) : Int) := by omega
  rw [e, u32_or_nat _ _ (by omega) (by omega), nat_join 8 _ _ (by omega) (by omega)]
  omega
/-- The state's words behind i rounds of the last loop. -/
def fin2 (s v : List Int) (i : Nat) : List Int := (List.range 8).map fun j => if j % 4 < i then (s.getD j 0 + v.getD j 0) % 4294967296 else s.getD j 0
theorem fin2_len (s v : List Int) (i : Nat) : (fin2 s v i).length = 8 := by simp [fin2]
theorem fin2_get (s v : List Int) (i j : Nat) (h : j < 8) : (fin2 s v i).getD j 0 = if j % 4 < i then (s.getD j 0 + v.getD j 0) % 4294967296 else s.getD j 0 := by
  simp [fin2, List.getD_eq_getElem?_getD, h]
theorem fin2_succ (s v : List Int) (i : Nat) (h : i < 4) (x y : Int) (hx : x = (s.getD i 0 + v.getD i 0) % 4294967296) (hy : y = (s.getD (i + 4) 0 + v.getD (i + 4) 0) % 4294967296) :
    ((u32s (fin2 s v i)).set i (.int .u32 x)).set (i + 4) (.int .u32 y) = u32s (fin2 s v (i + 1)) := by
  subst hx hy
  match i, h with
  | 0, _ => rfl
  | 1, _ => rfl
  | 2, _ => rfl
  | 3, _ => rfl
/-- The t-th word behind j of its bytes. -/
def accW (l : List Int) (t : Nat) : Nat → Int
  | 0 => 0
  | j + 1 => 256 * accW l t j + l.getD (4 * t + j) 0
theorem accW_bd (l : List Int) (hb : Byt l) (t : Nat) : ∀ j, j ≤ 4 → 0 ≤ accW l t j ∧ accW l t j < 256 ^ j := by
  intro j
  induction j with
  | zero => simp [accW]
  | succ j ih =>
    intro hj
    have h := ih (by omega)
    have hx := hb.at_ (4 * t + j)
    simp only [accW, Int.pow_succ]
    generalize (256 : Int) ^ j = p at *
    omega
theorem accW_small (l : List Int) (hb : Byt l) (t j : Nat) (hj : j ≤ 3) : 0 ≤ accW l t j ∧ accW l t j < 16777216 := by
  have h := accW_bd l hb t j (by omega)
  have : (256 : Int) ^ j ≤ 16777216 := by
    match j, hj with
    | 0, _ => decide
    | 1, _ => decide
    | 2, _ => decide
    | 3, _ => decide
  omega
theorem accW_four (l : List Int) (t : Nat) : accW l t 4 = wordAt l t := by
  simp only [accW, wordAt, Nat.add_zero]
  omega
end Go.Proofs.YtkjckmdiolgmcaaDoor
