/- Streams of SHA-256 as lists: the state behind a message, the padding, the hash. No condition. -/
import Derived.Test.YtkjckmdiolgmcaaDoorHashSpec
set_option linter.unusedSimpArgs false
set_option linter.unusedVariables false
namespace Go.Proofs.YtkjckmdiolgmcaaDoor
open Go.RowKit
/-- k blocks of a message. -/
def blocksI : Nat → List Int → St → St
  | 0, _, s => s
  | k + 1, m, s => blocksI k (m.drop 64) (compI s (m.take 64))
def initSt : St := ⟨1779033703, 3144134277, 1013904242, 2773480762, 1359893119, 2600822924, 528734635, 1541459225⟩
/-- The state behind the whole blocks of a message. -/
def hst (m : List Int) : St := blocksI (m.length / 64) m initSt
theorem blocksI_succ : ∀ (k : Nat) (m : List Int) (s : St), blocksI (k + 1) m s = compI (blocksI k m s) ((m.drop (64 * k)).take 64)
  | 0, m, s => by simp [blocksI]
  | k + 1, m, s => by
    rw [blocksI, blocksI_succ k, blocksI, List.drop_drop]
    rw [show 64 + 64 * k = 64 * (k + 1) from by omega]
theorem blocksI_app : ∀ (k : Nat) (m x : List Int) (s : St), 64 * k ≤ m.length → blocksI k (m ++ x) s = blocksI k m s
  | 0, _, _, _, _ => rfl
  | k + 1, m, x, s, h => by
    rw [blocksI, blocksI, List.drop_append_of_le_length (by omega), List.take_append_of_le_length (by omega)]
    exact blocksI_app k _ _ _ (by rw [List.length_drop]; omega)
theorem hst_small (m x : List Int) (h : m.length % 64 + x.length < 64) : hst (m ++ x) = hst m := by
  unfold hst
  have e : (m ++ x).length / 64 = m.length / 64 := by rw [List.length_append]; omega
  rw [e]
  exact blocksI_app _ _ _ _ (by omega)
theorem hst_full (m x : List Int) (h : m.length % 64 + x.length = 64) : hst (m ++ x) = compI (hst m) (m.drop (m.length / 64 * 64) ++ x) := by
  unfold hst
  have e : (m ++ x).length / 64 = m.length / 64 + 1 := by rw [List.length_append]; omega
  rw [e, blocksI_succ, blocksI_app _ _ _ _ (by omega), Nat.mul_comm 64, List.drop_append_of_le_length (by omega), List.take_of_length_le]
  rw [List.length_append, List.length_drop]
  omega
/-- The cells of a stream whose message is m; blk is its block. -/
structure IsStream (cs : List Value) (m blk : List Int) : Prop where
  cells : cs = u32s (hst m).list ++ (u8s blk ++ [.int .u64 m.length])
  len : blk.length = 64
  byt : Byt blk
  mbyt : Byt m
  part : blk.take (m.length % 64) = m.drop (m.length / 64 * 64)
/-- A block with x laid over it from place n on. -/
def over (blk : List Int) (n : Nat) (x : List Int) : List Int := blk.take n ++ x ++ blk.drop (n + x.length)
theorem over_len (blk : List Int) (n : Nat) (x : List Int) (h : n + x.length ≤ blk.length) : (over blk n x).length = blk.length := by
  simp [over]; omega
theorem over_byt {blk x : List Int} (hb : Byt blk) (hx : Byt x) (n : Nat) : Byt (over blk n x) := ((hb.take _).app hx).app (hb.drop _)
theorem over_take (blk : List Int) (n : Nat) (x : List Int) (h : n ≤ blk.length) : (over blk n x).take (n + x.length) = blk.take n ++ x := by
  unfold over
  rw [List.take_append_of_le_length (by simp; omega), List.take_of_length_le (by simp; omega)]
theorem str_part {m x blk : List Int} (hp : blk.take (m.length % 64) = m.drop (m.length / 64 * 64)) (hl : blk.length = 64) (h : m.length % 64 + x.length < 64) :
    (over blk (m.length % 64) x).take ((m ++ x).length % 64) = (m ++ x).drop ((m ++ x).length / 64 * 64) := by
  have e1 : (m ++ x).length % 64 = m.length % 64 + x.length := by rw [List.length_append]; omega
  have e2 : (m ++ x).length / 64 = m.length / 64 := by rw [List.length_append]; omega
  rw [e1, e2, over_take _ _ _ (by omega), hp, List.drop_append_of_le_length (by omega)]
theorem str_full {m x blk : List Int} (hp : blk.take (m.length % 64) = m.drop (m.length / 64 * 64)) (hl : blk.length = 64) (h : m.length % 64 + x.length = 64) :
    over blk (m.length % 64) x = m.drop (m.length / 64 * 64) ++ x := by
  have := over_take blk (m.length % 64) x (by omega)
  rw [h, List.take_of_length_le (by rw [over_len _ _ _ (by omega)]; omega)] at this
  rw [this, hp]
theorem str_full_part (m x blk : List Int) (h : m.length % 64 + x.length = 64) : (over blk (m.length % 64) x).take ((m ++ x).length % 64) = (m ++ x).drop ((m ++ x).length / 64 * 64) := by
  have e1 : (m ++ x).length % 64 = 0 := by rw [List.length_append]; omega
  have e2 : (m ++ x).length / 64 * 64 = (m ++ x).length := by rw [List.length_append]; omega
  rw [e1, e2]
  simp
/-- Eight bytes, big-endian. -/
def be64 (n : Int) : List Int := (List.range 8).map fun i => (n / 2 ^ (56 - 8 * i)) % 256
/-- The padding of a message of n bytes. -/
def padOf (n : Nat) : List Int := 128 :: List.replicate ((119 - n % 64) % 64) 0 ++ be64 (8 * n)
/-- The bytes of a hash value. -/
def outI (s : St) : List Int := (List.range 32).map fun i => (s.list.getD (i / 4) 0 / 2 ^ (24 - 8 * (i % 4))) % 256
/-- SHA-256. -/
def sha (m : List Int) : List Int := outI (hst (m ++ padOf m.length))
theorem sha_length (m : List Int) : (sha m).length = 32 := by simp [sha, outI]
theorem sha_byt (m : List Int) : Byt (sha m) := fun x hx => by
  obtain ⟨i, _, rfl⟩ := List.mem_map.1 hx
  omega
theorem be64_byt (n : Int) : Byt (be64 n) := fun x hx => by
  obtain ⟨i, _, rfl⟩ := List.mem_map.1 hx
  omega
theorem padOf_byt (n : Nat) : Byt (padOf n) := by
  unfold padOf
  refine Byt.app (fun x hx => ?_) (be64_byt _)
  rcases List.mem_cons.1 hx with rfl | hx
  · omega
  · obtain rfl := (List.mem_replicate.1 hx).2
    omega
theorem padOf_len (n : Nat) : (padOf n).length ≤ 72 := by
  simp only [padOf, be64, List.length_append, List.length_cons, List.length_replicate, List.length_map, List.length_range]
  omega
end Go.Proofs.YtkjckmdiolgmcaaDoor
