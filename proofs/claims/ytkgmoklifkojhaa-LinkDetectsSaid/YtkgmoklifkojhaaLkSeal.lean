/- The seal of a packet: link.seal. No condition. -/
import Derived.Test.YtkgmoklifkojhaaDecR
import Derived.Test.YtkgmoklifkojhaaExt
import Derived.Test.YtkgmoklifkojhaaLkLaw
import Derived.Deep.CutBlock
namespace Go.Proofs.Ytkgmoklifkojhaa
open Go.RowKit
/-- One step of the seal's hash. -/
def fnv1 (h c : Int) : Int := IntKind.u64.wrap (bits .xor .u64 h c * 1099511628211)
def fnv (h : Int) : List Int → Int
  | [] => h
  | c :: r => fnv (fnv1 h c) r
def seedL (key : Int) : Int := bits .xor .u64 14695981039346656037 key
/-- The eight bytes of the seal. -/
def sealB (key : Int) (l : List Int) : List Int := (List.range 8).map fun i => fnv (seedL key) l / 2 ^ (8 * i) % 256
theorem sealB_length (key : Int) (l : List Int) : (sealB key l).length = 8 := by simp [sealB]
theorem fnv_append (h : Int) (a b : List Int) : fnv h (a ++ b) = fnv (fnv h a) b := by
  induction a generalizing h with
  | nil => rfl
  | cons x a ih => exact ih _
theorem fnv_succ (h : Int) (l : List Int) (t : Nat) (ht : t < l.length) : fnv h (l.take (t + 1)) = fnv1 (fnv h (l.take t)) (l.getD t 0) := by
  have : l[t]? = some (l.getD t 0) := by simp [List.getD_eq_getElem?_getD, List.getElem?_eq_getElem ht]
  rw [List.take_add_one, this, fnv_append]
  rfl
theorem wrap_u64 (x : Int) : 0 ≤ IntKind.u64.wrap x ∧ IntKind.u64.wrap x ≤ 18446744073709551615 := by
  simp [IntKind.wrap, IntKind.bits, IntKind.signed]
  omega
theorem fnv1_bd (h c : Int) : 0 ≤ fnv1 h c ∧ fnv1 h c ≤ 18446744073709551615 := wrap_u64 _
theorem seedL_bd (key : Int) : 0 ≤ seedL key ∧ seedL key ≤ 18446744073709551615 := wrap_u64 _
theorem fnv_bd (h : Int) (h0 : 0 ≤ h) (h1 : h ≤ 18446744073709551615) (l : List Int) : 0 ≤ fnv h l ∧ fnv h l ≤ 18446744073709551615 := by
  induction l generalizing h with
  | nil => exact ⟨h0, h1⟩
  | cons c r ih => exact ih _ (fnv1_bd h c).1 (fnv1_bd h c).2
theorem sealB_byt (key : Int) (l : List Int) : Byt (sealB key l) := fun x hx => by
  obtain ⟨i, _, rfl⟩ := List.mem_map.1 hx
  omega
theorem info_8u8 : (Try.prog.info? 79).map (·.size) = some 8 := by kernel_rfl
def upTo8 (l : List Int) (t : Nat) : List Int := l.take t ++ List.replicate (8 - t) 0
theorem upTo8_set (l : List Int) (t : Nat) (h : t < 8) (hl : l.length = 8) : (u8s (upTo8 l t)).set t (.int .u8 (l.getD t 0)) = u8s (upTo8 l (t + 1)) := by
  have e : l[t]? = some (l.getD t 0) := by simp [List.getD_eq_getElem?_getD, List.getElem?_eq_getElem (show t < l.length by omega)]
  obtain ⟨q, hq⟩ : ∃ q, 8 - t = q + 1 := ⟨7 - t, by omega⟩
  unfold upTo8
  rw [hq, show 8 - (t + 1) = q by omega, List.take_add_one, e, List.replicate_succ]
  simp only [u8s, List.map_append, List.map_cons, Option.toList_some, List.map_nil]
  rw [List.set_append_right _ _ (by simp; omega)]
  have h0 : t - (List.map (Value.int .u8) (l.take t)).length = 0 := by simp; omega
  rw [h0]
  simp
set_option maxHeartbeats 4000000 in
set_option maxRecDepth 100000 in
theorem seal_any (key : Int) (_k0 : 0 ≤ key) (_k1 : key ≤ 18446744073709551615) (l : List Int) (A : Option Addr) (n c : Nat) (w : World) (hl : Rd w w.heap.size A n (u8s l)) (hby : Byt l) (hn : n ≤ 9223372036854775807) :
    Calls Try.prog 41 #[.int .u64 key, .slice A n c] w fun e w' => e = .returned (.agg (u8s (sealB key l)).toArray) ∧ Ext w w' := by
  have hlen : l.length = n := by simpa [u8s] using hl.1
  have HL := Lib.hid hl; have HN := Lib.hid hlen; have HBY := Lib.hid hby
  clear hl hlen hby
  obtain ⟨h0, hh0⟩ : ∃ h, h = seedL key := ⟨_, rfl⟩
  have HH0 : Hid (seedL key = h0) := Lib.hid hh0.symm
  have HSE : Hid (bits .xor .u64 14695981039346656037 key = h0) := Lib.hid hh0.symm
  have hb0 : 0 ≤ h0 ∧ h0 ≤ 18446744073709551615 := by rw [hh0]; exact seedL_bd key
  clear hh0
  go_enter Try.func41, Try.ntmps41
  go_upto_region 1 with (fail)
  obtain ⟨w0, hw0⟩ : ∃ w0, w0 = w.alloc (.cells (u8s (List.replicate 8 0)).toArray 79) := ⟨_, rfl⟩
  change Code.wp _ _ _ _ (w.alloc (.cells (u8s (List.replicate 8 0)).toArray 79))
  rw [← hw0]
  obtain ⟨g, hg⟩ : ∃ g, g = w.heap.size := ⟨_, rfl⟩
  rw [← hg]
  have HW0 : Hid (Blk w0 g 79 (u8s (List.replicate 8 0))) := Lib.hid (by rw [hw0, hg]; exact Blk.fresh _ _ _)
  have E0 : Hid (Ext w w0) := Lib.hid (by rw [hw0]; exact (Ext.refl w).alloc _)
  have hg0 : w.heap.size ≤ g := by omega
  clear hw0 hg
  have hse := HSE.out
  go_wp2_with fail
  clear hse
  go_loopw [5, 14] (fun s5 i wr => ∃ t : Nat, t ≤ n ∧ i = .int .i64 t ∧ s5 = .int .u64 (fnv h0 (l.take t)) ∧ wr = w0) (fun _ i _ => n - (intOf i).toNat)
  case atStart => exact ⟨0, Nat.zero_le _, rfl, rfl, rfl⟩
  case round =>
    obtain ⟨t, ht, rfl, rfl, hw⟩ := hrel
    subst hw
    by_cases hlt : t < n
    · obtain ⟨b, o, rfl, hb, hc⟩ := rd_u8 HL.out (by omega)
      have c0 := (E0.out.cell (p := ⟨b, o + t, none⟩) hb).trans (hc t hlt)
      have hbx := HBY.out.at_ t
      have hbh := fnv_bd h0 hb0.1 hb0.2 (l.take t)
      have HF := Lib.hid (fnv_succ h0 l t (by rw [HN.out]; exact hlt))
      clear hc
      generalize l.getD t 0 = x at *
      generalize fnv h0 (l.take t) = h at *
      obtain ⟨x0, x1⟩ := hbx
      obtain ⟨y0, y1⟩ := hbh
      go_wp2_with fail
      go_roundw
      case rel => exact ⟨t + 1, by omega, by go_num, by rw [HF.out]; rfl, trivial⟩
      case measure => simp [intOf]; omega
    · obtain rfl : t = n := by omega
      have ht2 : l.take t = l := List.take_of_length_le (by rw [HN.out]; exact Nat.le_refl _)
      rw [ht2]
      have hbh := fnv_bd h0 hb0.1 hb0.2 l
      have HSB : Hid (sealB key l = (List.range 8).map fun i => fnv h0 l / 2 ^ (8 * i) % 256) := Lib.hid (by unfold sealB; rw [HH0.out])
      clear ht2
      generalize fnv h0 l = h at *
      obtain ⟨y0, y1⟩ := hbh
      go_upto_region 8 with fail
      obtain ⟨w1, hw1⟩ : ∃ w1, w1 = wr.alloc (.cells (u8s (List.replicate 8 0)).toArray 79) := ⟨_, rfl⟩
      change Code.wp _ _ _ _ (wr.alloc (.cells (u8s (List.replicate 8 0)).toArray 79))
      rw [← hw1]
      obtain ⟨q, hq⟩ : ∃ q, q = wr.heap.size := ⟨_, rfl⟩
      rw [← hq]
      have HW1 : Hid (Blk w1 q 79 (u8s (List.replicate 8 0))) := Lib.hid (by rw [hw1, hq]; exact Blk.fresh _ _ _)
      have E1 : Hid (Ext w w1) := Lib.hid (by rw [hw1]; exact E0.out.alloc _)
      have HG1 : Hid (Blk w1 g 79 (u8s (List.replicate 8 0))) := Lib.hid (by rw [hw1]; exact HW0.out.alloc _)
      have hq0 : w.heap.size ≤ q := by rw [hq]; exact E0.out.size
      have hgq : g < q := by rw [hq]; exact HW0.out.lt
      clear hw1 hq
      obtain ⟨S, hS⟩ : ∃ S, S = sealB key l := ⟨_, rfl⟩
      have HSL : Hid (S.length = 8) := Lib.hid (by rw [hS]; exact sealB_length key l)
      have HSG : Hid (∀ t, t < 8 → S.getD t 0 = h / 2 ^ (8 * t) % 256) := Lib.hid (fun t ht => by
        rw [hS, HSB.out, List.getD_eq_getElem?_getD, List.getElem?_map, List.getElem?_range ht]; rfl)
      have HSE2 : Hid (sealB key l = S) := Lib.hid hS.symm
      clear hS HSB
      go_wp2_with fail
      go_loopw [24] (fun i wr => ∃ t : Nat, t ≤ 8 ∧ i = .int .i64 t ∧ Blk wr q 79 (u8s (upTo8 S t)) ∧ Blk wr g 79 (u8s (List.replicate 8 0)) ∧ Ext w wr) (fun i _ => 8 - (intOf i).toNat)
      case atStart => exact ⟨0, by omega, rfl, HW1.out, HG1.out, E1.out⟩
      case round =>
        obtain ⟨t, ht, rfl, hb, hgb, hE⟩ := hrel
        have HB := Lib.hid hb; have HGB := Lib.hid hgb; have HE := Lib.hid hE
        clear hb hgb hE
        by_cases hlt : t < 8
        · have co : wr.cell? ⟨q, t, none⟩ = some (.int .u8 0) := by
            rw [HB.out.cell t, u8s_get _ _ (by have := HSL.out; simp [upTo8]; omega)]
            congr 2
            have := HSL.out
            unfold upTo8
            rw [List.getD_eq_getElem?_getD, List.getElem?_append_right (by simp; omega)]
            simp only [List.length_take, List.getElem?_replicate]
            split <;> rfl
          have fz := HB.out.frozen t
          have HSET := Lib.hid (upTo8_set S t hlt HSL.out)
          have HV := Lib.hid (HSG.out t hlt)
          go_wp2_with fail
          refine ⟨⟨t + 1, by omega, by go_num, ?_, HGB.out.far (by simp; omega) _, HE.out.setCell (by simp; omega) _⟩, by simp [intOf]; omega⟩
          rw [← HV.out, ← HSET.out]
          exact HB.out.set t _
        · obtain rfl : t = 8 := by omega
          have hS8 : upTo8 S 8 = S := by
            unfold upTo8
            rw [List.take_of_length_le (by rw [HSL.out]; exact Nat.le_refl _)]
            simp
          have HB8 : Hid (Blk wr q 79 (u8s S)) := Lib.hid (by have := HB.out; rw [hS8] at this; exact this)
          have HUL : Hid ((u8s S).length = 8) := Lib.hid (by rw [u8s_length, HSL.out])
          clear hS8
          go_wp2_with (first
            | (refine wpList_load_blk rfl 79 (.tmp 8) rfl q rfl HB8.out Try.underlying79 rfl (info_8u8.trans (congrArg some HUL.out.symm)) ?_)
            | (refine wpList_store_blk rfl 79 (.tmp 4) (.tmp 35) rfl g (u8s S) rfl rfl HGB.out (info_8u8.trans (congrArg some HUL.out.symm)) (by rw [HUL.out]; rfl) (u8s_one S) ?_; intro w3 hw3 hb3))
          refine bodyPost_ret (results_blk Try.results41 _ _ g 79 (u8s S) _ rfl hb3 Try.underlying79 rfl (info_8u8.trans (congrArg some HUL.out.symm))) rfl ⟨by rw [HSE2.out], ?_⟩
          rw [hw3.out]
          exact HE.out.setRow hg0 _
end Go.Proofs.Ytkgmoklifkojhaa
