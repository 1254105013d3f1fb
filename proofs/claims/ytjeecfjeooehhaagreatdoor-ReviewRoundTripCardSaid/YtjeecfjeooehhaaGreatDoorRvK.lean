/- slices.Chunk over a slice of integers whose length is a multiple of the chunks' size. Conditions: the slice can be read; size at least 1. -/
import Derived.Test.YtjeecfjeooehhaaGreatDoorRvI
import Derived.Test.YtjeecfjeooehhaaGreatDoorRvJ
set_option linter.unusedSimpArgs false
set_option linter.unusedVariables false
namespace Go.Proofs.YtjeecfjeooehhaaGreatDoor
open Go.RowKit
attribute [local go_sem] Oper.semAt_some
/-- The numbers below m. -/
abbrev Bel (m : Nat) := { k : Nat // k < m }
def upB (m : Nat) : Nat → List (Bel m)
  | 0 => []
  | k + 1 => if h : k < m then upB m k ++ [⟨k, h⟩] else upB m k
theorem upB_succ {m k : Nat} (h : k < m) : upB m (k + 1) = upB m k ++ [⟨k, h⟩] := by
  rw [upB, dif_pos h]
theorem upB_val (m : Nat) : ∀ k, k ≤ m → (upB m k).map (·.1) = List.range k
  | 0, _ => rfl
  | k + 1, h => by rw [upB_succ (by omega), List.map_append, upB_val m k (by omega), List.range_succ]; rfl
theorem upB_len (m k : Nat) (h : k ≤ m) : (upB m k).length = k := by
  have := congrArg List.length (upB_val m k h)
  simpa using this
/-- The k-th chunk. -/
def chunkV (b o q k : Nat) : Value := .slice (some ⟨b, o + q * k, none⟩) q q
/-- What a round keeps: the two captured cells. -/
def KpB (Bs Bn : Nat) (A B : World) : Prop := B.cell? ⟨Bs, 0, none⟩ = A.cell? ⟨Bs, 0, none⟩ ∧ B.cell? ⟨Bn, 0, none⟩ = A.cell? ⟨Bn, 0, none⟩
theorem KpB.trans {Bs Bn : Nat} {A B C : World} (h : KpB Bs Bn A B) (k : KpB Bs Bn B C) : KpB Bs Bn A C := ⟨k.1.trans h.1, k.2.trans h.2⟩
set_option maxRecDepth 100000 in
set_option maxHeartbeats 4000000 in
theorem chunk1_in (l Bs Bn b o len c q m : Nat) (hq : 1 ≤ q) (hm : len = q * m) (hlc : len ≤ c) (hc : c ≤ 9223372036854775807) (J Jx : List (Bel m) → World → Prop)
    (hY : ∀ pre x W, J pre W → pre.length < m → YieldAt Fence.wide 4 Tryz.prog l #[chunkV b o q x.1] W fun e W' =>
      (e = .returned (.bool true) ∧ J (pre ++ [x]) W' ∧ KpB Bs Bn W W') ∨ (e = .returned (.bool false) ∧ Jx (pre ++ [x]) W'))
    (hJd : ∀ pre W, J pre W → J pre W.drew)
    (W : World) (hBs : W.cell? ⟨Bs, 0, none⟩ = some (.slice (some ⟨b, o, none⟩) len c)) (hBn : W.cell? ⟨Bn, 0, none⟩ = some (.int .i64 (q : Int))) (h0 : J [] W) :
    CallsIn Fence.wide 5 Tryz.prog 118 #[.func (.yield l) #[] #[], .pointer (some ⟨Bs, 0, none⟩), .pointer (some ⟨Bn, 0, none⟩)] W fun e W' => (∃ v, e = .returned v) ∧
      ((∃ ys, ys = upB m m ∧ J ys W') ∨ (∃ pre, True ∧ Jx pre W')) := by
  refine callsIn_of_wp Tryz.func118 rfl trivial ?_ rfl
  simp only [Tryz.ntmps118, List.size_toArray, List.length_cons, List.length_nil, Nat.reduceAdd, Nat.reduceSub, Array.replicate_succ, Array.replicate_zero, List.push_toArray, List.append_toArray, List.nil_append, List.cons_append]
  gi_wp2
  gi_loopw [4] (fun i wr => ∃ k p : Nat, p = q * k ∧ k ≤ m ∧ i = .int .i64 (p : Int) ∧ J (upB m k) wr ∧ KpB Bs Bn W wr)
    (fun i _ => len - (intOf i).toNat)
  case atStart => exact ⟨0, 0, rfl, Nat.zero_le _, rfl, h0, ⟨rfl, rfl⟩⟩
  case round =>
    obtain ⟨k, p, hp, hk, rfl, hJs, hnx⟩ := hrel
    have hcs : wr.cell? ⟨Bs, 0, none⟩ = some (.slice (some ⟨b, o, none⟩) len c) := hnx.1.trans hBs
    have hcn : wr.cell? ⟨Bn, 0, none⟩ = some (.int .i64 (q : Int)) := hnx.2.trans hBn
    by_cases hlt : k < m
    · have hpq : p + q ≤ len := by
        rw [hp, hm]
        have : q * (k + 1) ≤ q * m := Nat.mul_le_mul_left q hlt
        rw [Nat.mul_succ] at this; exact this
      obtain ⟨fn, tmps, assign, body, hy, hR⟩ := hY _ ⟨k, hlt⟩ wr.drew (hJd _ _ hJs) (by rw [upB_len m k hk]; exact hlt)
      dsimp only [chunkV] at hy
      rw [← hp] at hy
      have hplt : p < len := by omega
      have HP := Lib.hid hp
      have HM := Lib.hid hm
      clear hp hm
      gi_wp2
      refine wpIn_wide.2 ?_
      go_region
      gi_wp2
      refine hR.mono ?_
      rintro e W3 (⟨rfl, hJ3, hk3⟩ | ⟨rfl, hJx3⟩)
      · have hk4 : KpB Bs Bn W W3 := hnx.trans ⟨hk3.1, hk3.2⟩
        have hcn3 : W3.cell? ⟨Bn, 0, none⟩ = some (.int .i64 (q : Int)) := hk4.2.trans hBn
        gi_wp2
        go_roundw
        case rel => exact ⟨k + 1, p + q, by rw [HP.out, Nat.mul_succ], by omega, by rw [Int.natCast_add], by rw [upB_succ hlt]; exact hJ3, hk4⟩
        case measure => simp [intOf]; omega
      · gi_wp2
        refine bodyPost_ret (results_none rfl _ _ _) rfl ?_
        exact ⟨⟨_, rfl⟩, .inr ⟨_, trivial, hJx3⟩⟩
    · obtain rfl : k = m := by omega
      have hpl : p = len := by omega
      subst hpl
      gi_wp2
      go_end0
      exact ⟨⟨_, rfl⟩, .inl ⟨_, rfl, hJs⟩⟩
set_option maxRecDepth 100000 in
set_option maxHeartbeats 1000000 in
theorem chunk1_nil (l Bs Bn : Nat) (A : Option Addr) (c : Nat) (J : World → Prop) (W : World) (hBs : W.cell? ⟨Bs, 0, none⟩ = some (.slice A 0 c)) (h0 : J W) :
    CallsIn Fence.wide 5 Tryz.prog 118 #[.func (.yield l) #[] #[], .pointer (some ⟨Bs, 0, none⟩), .pointer (some ⟨Bn, 0, none⟩)] W fun e W' => (∃ v, e = .returned v) ∧ J W' := by
  refine callsIn_of_wp Tryz.func118 rfl trivial ?_ rfl
  simp only [Tryz.ntmps118, List.size_toArray, List.length_cons, List.length_nil, Nat.reduceAdd, Nat.reduceSub, Array.replicate_succ, Array.replicate_zero, List.push_toArray, List.append_toArray, List.nil_append, List.cons_append]
  gi_wp2
  gi_loopw [4] (fun i wr => i = .int .i64 0 ∧ wr = W) (fun _ _ => 0)
  case atStart => exact ⟨rfl, rfl⟩
  case round =>
    obtain ⟨rfl, rfl⟩ := hrel
    gi_wp2
    go_end0
    exact ⟨⟨_, rfl⟩, h0⟩
/-- What is behind the slice: a block with its cells, or nothing is to come. -/
theorem chunk1_stops (Bs Bn len c q m : Nat) (A : Option Addr) (hq : 1 ≤ q) (hm : len = q * m) (hlc : len ≤ c) (hc : c ≤ 9223372036854775807) (w : World) (hbn : Bs < w.heap.size) (hbn2 : Bn < w.heap.size)
    (hBs : w.cell? ⟨Bs, 0, none⟩ = some (.slice A len c)) (hBn : w.cell? ⟨Bn, 0, none⟩ = some (.int .i64 (q : Int))) (b o : Nat) (hA : 0 < len → A = some ⟨b, o, none⟩) :
    SeqStopsK Fence.wide 5 Tryz.prog 118 #[.pointer (some ⟨Bs, 0, none⟩), .pointer (some ⟨Bn, 0, none⟩)] (fun x : Bel m => #[chunkV b o q x.1]) (KpB Bs Bn) (fun ys => ys = upB m m) (fun _ => True) m w := fun l J Jx W hW hJ hJx hY h0 => by
  have hcs := (hW.cell (p := ⟨Bs, 0, none⟩) hbn).trans hBs
  have hcn := (hW.cell (p := ⟨Bn, 0, none⟩) hbn2).trans hBn
  rcases Nat.eq_zero_or_pos len with h | h
  · subst h
    have hm0 : m = 0 := by
      rcases Nat.mul_eq_zero.1 hm.symm with h | h <;> omega
    subst hm0
    exact (chunk1_nil l Bs Bn A c (J []) W hcs h0).mono fun e W' ⟨he, hj⟩ => ⟨he, .inl ⟨[], rfl, hj⟩⟩
  · rw [hA h] at hcs
    refine (chunk1_in l Bs Bn b o len c q m hq hm hlc hc J Jx hY (fun pre W hj => hJ pre W W.drew none hj ⟨rfl, rfl, rfl, Nat.le_refl _, fun i hi _ => rfl⟩ (fun r e => by cases e)) W hcs hcn h0).mono fun e W' h => h
set_option maxRecDepth 100000 in
set_option maxHeartbeats 1000000 in
theorem chunk_any (A : Option Addr) (n c q : Nat) (hq : 1 ≤ q) (w : World) :
    Calls Tryz.prog 72 #[.slice A n c, .int .i64 (q : Int)] w fun e w' => e = .returned (.func (.func 118) #[] #[.pointer (some ⟨w.heap.size, 0, none⟩), .pointer (some ⟨w.heap.size + 1, 0, none⟩)]) ∧ w' = (w.alloc (.cells #[.slice A n c] 22)).alloc (.cells #[.int .i64 (q : Int)] 3) := by
  have h1 : decide ((q : Int) < 1) = false := decide_eq_false (by omega)
  clear hq
  go_enter Tryz.func72, Tryz.ntmps72
  go_wp2_with fail
  go_ret
  exact ⟨rfl, rfl⟩
end Go.Proofs.YtjeecfjeooehhaaGreatDoor
