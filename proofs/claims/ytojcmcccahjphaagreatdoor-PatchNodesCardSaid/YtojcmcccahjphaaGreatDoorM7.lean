/- Valid of a review: the program's and the reference's. Conditions: at most 1000 operations. -/
import Derived.Test.YtojcmcccahjphaaGreatDoorM5
import Derived.Test.YtojcmcccahjphaaGreatDoorM3
import Derived.Test.YtojcmcccahjphaaGreatDoorM1
import Derived.Test.YtojcmcccahjphaaGreatDoorM4
import Derived.RangeFuncBox
import Derived.RangeFuncLeaves
import Derived.RangeFuncCalls
import Derived.RangeFuncFrom
import Derived.OwnWalkIn
import Derived.TacticsInMore
import Derived.LoopNIn
import Derived.LoopIn
import Derived.OrdersIn
import Derived.Stop.BytesEq
import Derived.Deep.RegionHeld3
import Derived.Shelf.Abstract
set_option linter.unusedSimpArgs false
set_option linter.unusedVariables false
set_option maxHeartbeats 16000000
set_option maxRecDepth 100000
namespace Go.Proofs.YtojcmcccahjphaaGreatDoor
open Go.RowKit
open Lib (hid)
attribute [local go_sem ↓] wp_at_zero wp_at_succ
structure Rev where
 shop : Int
 seq : Int
 day : Int
 wd : Bool
 ops : List Rid
 mean : List Int
 sl : ByteArray
def revC (r : Rev) (A : Option Addr) (n c : Nat) : List Value := [.int .i64 r.shop,.int .i64 r.seq,.int .i64 r.day,.bool r.wd,.slice A n c] ++ u8s r.mean ++ [.string r.sl]
structure RevV (w : World) (r : Rev) (A : Option Addr) (n c : Nat) : Prop where
 row : RdN w w.heap.size 3 A n (idsC r.ops)
 le : n ≤ c
 cap : c ≤ 9223372036854775807
 few : n ≤ 1000000000000
 mean : r.mean.length = 16
 mbyt : Byt r.mean
theorem RevV.ext {w w' : World} {r : Rev} {A : Option Addr} {n c : Nat} (h : RevV w r A n c) (hE : Ext w w') : RevV w' r A n c := ⟨(h.row.below hE (Nat.le_refl _)).more hE.size,h.le,h.cap,h.few,h.mean,h.mbyt⟩
theorem RevV.len {w : World} {r : Rev} {A : Option Addr} {n c : Nat} (h : RevV w r A n c) : r.ops.length = n := by have := h.row.1;rw [idsC_len] at this;omega
def rid0 : Rid := ⟨0,0,0⟩
theorem getD_of {L : List Rid} {t : Nat} (ht : t < L.length) : L[t]? = some (L.getD t rid0) := by
 rw [List.getD_eq_getElem?_getD,List.getElem?_eq_getElem ht];rfl
end Go.Proofs.YtojcmcccahjphaaGreatDoor
/- The reference's Valid of a review. Conditions: at most 1000 operations. -/
namespace Go.Proofs.YtojcmcccahjphaaGreatDoor
open Go.RowKit
open Lib (hid)
attribute [local go_sem ↓] wp_at_zero wp_at_succ
end Go.Proofs.YtojcmcccahjphaaGreatDoor
/- Review: a review made from numbers. Conditions: numbers of 64 bits. -/
namespace Go.Proofs.YtojcmcccahjphaaGreatDoor
open Go.RowKit
open Lib (hid)
attribute [local go_sem ↓] wp_at_zero wp_at_succ
theorem revC_len (r : Rev) (A : Option Addr) (n c : Nat) (h : r.mean.length = 16) : (revC r A n c).length = 22 := by
 simp [revC,u8s,h]
end Go.Proofs.YtojcmcccahjphaaGreatDoor
/- The walks of the encoders of digests, of the code and of the reference. No condition beyond a bound on the length. -/
namespace Go.Proofs.YtojcmcccahjphaaGreatDoor
open Go.RowKit
open Lib (hid)
def Dig16 (ds : List (List Int)) : Prop := ∀ d ∈ ds,d.length = 16 ∧ Byt d
theorem Dig16.nil : Dig16 [] := fun d h => by cases h
theorem Dig16.at_ {ds : List (List Int)} (h : Dig16 ds) {t : Nat} (ht : t < ds.length) : (ds.getD t []).length = 16 ∧ Byt (ds.getD t []) := h _ (getD_mem [] ht)
end Go.Proofs.YtojcmcccahjphaaGreatDoor
/- The walks of the reference's Digests and of GetDigests, of the code and of the reference. No condition beyond a bound on the length. -/
namespace Go.Proofs.YtojcmcccahjphaaGreatDoor
open Go.RowKit
open Lib (hid)
end Go.Proofs.YtojcmcccahjphaaGreatDoor
/- The bytes of a review: review.encode. Conditions: at most 1000 operations, 64-bit numbers, a seal of at most 10^9 bytes. -/
namespace Go.Proofs.YtojcmcccahjphaaGreatDoor
open Go.RowKit
open Lib (hid)
attribute [local go_sem ↓] wp_at_zero wp_at_succ
theorem own_lo {w : World} {b b' : Nat} {e : TypeId} {size : Nat} {v : Value} {n : Nat} {xs : List Value} (h : w.ownsRow b e size v n xs) (hb : b' ≤ b) : w.ownsRow b' e size v n xs :=
 ⟨h.1,h.2.imp id (fun ⟨g,cap,cur,h1,h2,h3⟩ => ⟨g,cap,cur,h1,Nat.le_trans hb h2,h3⟩)⟩
def i64 (x : Int) : Prop := -9223372036854775808 ≤ x ∧ x ≤ 9223372036854775807
def opI (x : Rid) : List Int := [x.s,x.q,x.i]
def opsI (L : List Rid) : List Int := L.flatMap opI
theorem opsI_snoc {L : List Rid} {t : Nat} {x : Rid} (h : L[t]? = some x) : opsI (L.take (t + 1)) = opsI (L.take t) ++ opI x := by
 unfold opsI
 rw [List.take_add_one,h,List.flatMap_append]
 simp
theorem encL_le (l : List Int) (hw : ∀ x ∈ l,-9223372036854775808 ≤ x ∧ x ≤ 9223372036854775807) (hn : l.length ≤ 1000000) : (encL encInt l).length ≤ 9 + 9 * l.length := by
 have h0 := encInt_le9 (l.length : Int) (by omega) (by omega)
 have h1 : ∀ m : List Int,(∀ x ∈ m,-9223372036854775808 ≤ x ∧ x ≤ 9223372036854775807) → (m.flatMap encInt).length ≤ 9 * m.length := by
  intro m
  induction m with
  | nil => intro _;simp
  | cons x r ih =>
   intro hx
   have h2 := hx x (List.mem_cons_self ..)
   have h3 := encInt_le9 x h2.1 h2.2
   have h4 := ih (fun y hy => hx y (List.mem_cons_of_mem _ hy))
   rw [List.flatMap_cons,List.length_append,List.length_cons]
   omega
 have h2 := h1 l hw
 unfold encL
 rw [List.length_append]
 omega
end Go.Proofs.YtojcmcccahjphaaGreatDoor
/- The bytes of a review by the reference. Conditions: as for encode. -/
namespace Go.Proofs.YtojcmcccahjphaaGreatDoor
open Go.RowKit
open Lib (hid)
attribute [local go_sem ↓] wp_at_zero wp_at_succ
end Go.Proofs.YtojcmcccahjphaaGreatDoor
/- Encode of a review, and whether two reviews are the same. Conditions: as for encode. -/
namespace Go.Proofs.YtojcmcccahjphaaGreatDoor
open Go.RowKit
open Lib (hid)
attribute [local go_sem ↓] wp_at_zero wp_at_succ
end Go.Proofs.YtojcmcccahjphaaGreatDoor
/- A region that draws its order inside a round of a range over a function, by the flow of its data. No condition. -/
namespace Go.Proofs.YtojcmcccahjphaaGreatDoor
open Go.RowKit
open Lib (hid)
section
variable {P : Program} {Q : Exit → Act → World → Prop}
end
end Go.Proofs.YtojcmcccahjphaaGreatDoor
/- slices.Chunk over a slice of integers whose length is a multiple of the chunks' size. Conditions: the slice can be read; size at least 1. -/
namespace Go.Proofs.YtojcmcccahjphaaGreatDoor
open Go.RowKit
open Lib (hid)
attribute [local go_sem] Oper.semAt_some
abbrev Bel (m : Nat) := { k : Nat // k < m }
def upB (m : Nat) : Nat → List (Bel m)
 | 0 => []
 | k + 1 => if h : k < m then upB m k ++ [⟨k,h⟩] else upB m k
theorem upB_succ {m k : Nat} (h : k < m) : upB m (k + 1) = upB m k ++ [⟨k,h⟩] := by
 rw [upB,dif_pos h]
theorem upB_val (m : Nat) : ∀ k,k ≤ m → (upB m k).map (·.1) = List.range k
 | 0,_ => rfl
 | k + 1,h => by rw [upB_succ (by omega),List.map_append,upB_val m k (by omega),List.range_succ];rfl
theorem upB_len (m k : Nat) (h : k ≤ m) : (upB m k).length = k := by
 have := congrArg List.length (upB_val m k h)
 simpa using this
def chunkV (b o q k : Nat) : Value := .slice (some ⟨b,o + q * k,none⟩) q q
def KpB (Bs Bn : Nat) (A B : World) : Prop := B.cell? ⟨Bs,0,none⟩ = A.cell? ⟨Bs,0,none⟩ ∧ B.cell? ⟨Bn,0,none⟩ = A.cell? ⟨Bn,0,none⟩
theorem KpB.trans {Bs Bn : Nat} {A B C : World} (h : KpB Bs Bn A B) (k : KpB Bs Bn B C) : KpB Bs Bn A C := ⟨k.1.trans h.1,k.2.trans h.2⟩
theorem chunk1_in (l Bs Bn b o len c q m : Nat) (hq : 1 ≤ q) (hm : len = q * m) (hlc : len ≤ c) (hc : c ≤ 9223372036854775807) (J Jx : List (Bel m) → World → Prop)
  (hY : ∀ pre x W,J pre W → pre.length < m → YieldAt Fence.wide 4 Tryz.prog l #[chunkV b o q x.1] W fun e W' =>
   (e = .returned (.bool true) ∧ J (pre ++ [x]) W' ∧ KpB Bs Bn W W') ∨ (e = .returned (.bool false) ∧ Jx (pre ++ [x]) W'))
  (hJd : ∀ pre W,J pre W → J pre W.drew)
  (W : World) (hBs : W.cell? ⟨Bs,0,none⟩ = some (.slice (some ⟨b,o,none⟩) len c)) (hBn : W.cell? ⟨Bn,0,none⟩ = some (.int .i64 (q : Int))) (h0 : J [] W) :
  CallsIn Fence.wide 5 Tryz.prog 81 #[.func (.yield l) #[] #[],.pointer (some ⟨Bs,0,none⟩),.pointer (some ⟨Bn,0,none⟩)] W fun e W' => (∃ v,e = .returned v) ∧
   ((∃ ys,ys = upB m m ∧ J ys W') ∨ (∃ pre,True ∧ Jx pre W')) := by
 refine callsIn_of_wp Tryz.func81 rfl trivial ?_ rfl
 simp only [Tryz.ntmps81,List.size_toArray,List.length_cons,List.length_nil,Nat.reduceAdd,Nat.reduceSub,Array.replicate_succ,Array.replicate_zero,List.push_toArray,List.append_toArray,List.nil_append,List.cons_append]
 gi_wp2
 gi_loopw [4] (fun i wr => ∃ k p : Nat,p = q * k ∧ k ≤ m ∧ i = .int .i64 (p : Int) ∧ J (upB m k) wr ∧ KpB Bs Bn W wr)
  (fun i _ => len - (intOf i).toNat)
 case atStart => exact ⟨0,0,rfl,Nat.zero_le _,rfl,h0,⟨rfl,rfl⟩⟩
 case round =>
  obtain ⟨k,p,hp,hk,rfl,hJs,hnx⟩ := hrel
  have hcs : wr.cell? ⟨Bs,0,none⟩ = some (.slice (some ⟨b,o,none⟩) len c) := hnx.1.trans hBs
  have hcn : wr.cell? ⟨Bn,0,none⟩ = some (.int .i64 (q : Int)) := hnx.2.trans hBn
  by_cases hlt : k < m
  ·have hpq : p + q ≤ len := by
    rw [hp,hm]
    have : q * (k + 1) ≤ q * m := Nat.mul_le_mul_left q hlt
    rw [Nat.mul_succ] at this;exact this
   obtain ⟨fn,tmps,assign,body,hy,hR⟩ := hY _ ⟨k,hlt⟩ wr.drew (hJd _ _ hJs) (by rw [upB_len m k hk];exact hlt)
   dsimp only [chunkV] at hy
   rw [← hp] at hy
   have hplt : p < len := by omega
   have HP := hid hp
   have HM := hid hm
   clear hp hm
   gi_wp2
   refine wpIn_wide.2 ?_
   go_region
   gi_wp2
   refine hR.mono ?_
   rintro e W3 (⟨rfl,hJ3,hk3⟩ | ⟨rfl,hJx3⟩)
   ·have hk4 : KpB Bs Bn W W3 := hnx.trans ⟨hk3.1,hk3.2⟩
    have hcn3 : W3.cell? ⟨Bn,0,none⟩ = some (.int .i64 (q : Int)) := hk4.2.trans hBn
    gi_wp2
    go_roundw
    case rel => exact ⟨k + 1,p + q,by rw [HP.out,Nat.mul_succ],by omega,by rw [Int.natCast_add],by rw [upB_succ hlt];exact hJ3,hk4⟩
    case measure => simp [intOf];omega
   ·gi_wp2
    refine bodyPost_ret (results_none rfl _ _ _) rfl ?_
    exact ⟨⟨_,rfl⟩,.inr ⟨_,trivial,hJx3⟩⟩
  ·obtain rfl : k = m := by omega
   have hpl : p = len := by omega
   subst hpl
   gi_wp2
   go_end0
   exact ⟨⟨_,rfl⟩,.inl ⟨_,rfl,hJs⟩⟩
theorem chunk1_nil (l Bs Bn : Nat) (A : Option Addr) (c : Nat) (J : World → Prop) (W : World) (hBs : W.cell? ⟨Bs,0,none⟩ = some (.slice A 0 c)) (h0 : J W) :
  CallsIn Fence.wide 5 Tryz.prog 81 #[.func (.yield l) #[] #[],.pointer (some ⟨Bs,0,none⟩),.pointer (some ⟨Bn,0,none⟩)] W fun e W' => (∃ v,e = .returned v) ∧ J W' := by
 refine callsIn_of_wp Tryz.func81 rfl trivial ?_ rfl
 simp only [Tryz.ntmps81,List.size_toArray,List.length_cons,List.length_nil,Nat.reduceAdd,Nat.reduceSub,Array.replicate_succ,Array.replicate_zero,List.push_toArray,List.append_toArray,List.nil_append,List.cons_append]
 gi_wp2
 gi_loopw [4] (fun i wr => i = .int .i64 0 ∧ wr = W) (fun _ _ => 0)
 case atStart => exact ⟨rfl,rfl⟩
 case round =>
  obtain ⟨rfl,rfl⟩ := hrel
  gi_wp2
  go_end0
  exact ⟨⟨_,rfl⟩,h0⟩
theorem chunk1_stops (Bs Bn len c q m : Nat) (A : Option Addr) (hq : 1 ≤ q) (hm : len = q * m) (hlc : len ≤ c) (hc : c ≤ 9223372036854775807) (w : World) (hbn : Bs < w.heap.size) (hbn2 : Bn < w.heap.size)
  (hBs : w.cell? ⟨Bs,0,none⟩ = some (.slice A len c)) (hBn : w.cell? ⟨Bn,0,none⟩ = some (.int .i64 (q : Int))) (b o : Nat) (hA : 0 < len → A = some ⟨b,o,none⟩) :
  SeqStopsK Fence.wide 5 Tryz.prog 81 #[.pointer (some ⟨Bs,0,none⟩),.pointer (some ⟨Bn,0,none⟩)] (fun x : Bel m => #[chunkV b o q x.1]) (KpB Bs Bn) (fun ys => ys = upB m m) (fun _ => True) m w := fun l J Jx W hW hJ hJx hY h0 => by
 have hcs := (hW.cell (p := ⟨Bs,0,none⟩) hbn).trans hBs
 have hcn := (hW.cell (p := ⟨Bn,0,none⟩) hbn2).trans hBn
 rcases Nat.eq_zero_or_pos len with h | h
 ·subst h
  have hm0 : m = 0 := by
   rcases Nat.mul_eq_zero.1 hm.symm with h | h <;> omega
  subst hm0
  exact (chunk1_nil l Bs Bn A c (J []) W hcs h0).mono fun e W' ⟨he,hj⟩ => ⟨he,.inl ⟨[],rfl,hj⟩⟩
 ·rw [hA h] at hcs
  refine (chunk1_in l Bs Bn b o len c q m hq hm hlc hc J Jx hY (fun pre W hj => hJ pre W W.drew none hj ⟨rfl,rfl,rfl,Nat.le_refl _,fun i hi _ => rfl⟩ (fun r e => by cases e)) W hcs hcn h0).mono fun e W' h => h
theorem chunk_any (A : Option Addr) (n c q : Nat) (hq : 1 ≤ q) (w : World) :
  Calls Tryz.prog 68 #[.slice A n c,.int .i64 (q : Int)] w fun e w' => e = .returned (.func (.func 81) #[] #[.pointer (some ⟨w.heap.size,0,none⟩),.pointer (some ⟨w.heap.size + 1,0,none⟩)]) ∧ w' = (w.alloc (.cells #[.slice A n c] 43)).alloc (.cells #[.int .i64 (q : Int)] 3) := by
 have h1 : decide ((q : Int) < 1) = false := decide_eq_false (by omega)
 clear hq
 go_enter Tryz.func68,Tryz.ntmps68
 go_wp2_with fail
 go_ret
 exact ⟨rfl,rfl⟩
end Go.Proofs.YtojcmcccahjphaaGreatDoor
/- b[n:] of a slice of bytes, whatever is left of its capacity. No condition. -/
namespace Go.Proofs.YtojcmcccahjphaaGreatDoor
open Go.RowKit
open Lib (hid)
def restA (A : Option Addr) (c u : Nat) : Option Addr := if c = u then A else A.map (·.add u)
section
variable {P : Program} {ops : Array Oper} {rest : List Oper} {o : Oper} {a : Act} {w : World} {Q : Exit → Act → World → Prop}
theorem wp_slice_rest {K : Act → World → Prop} (ty : TypeId) (x lo : Operand) (ho : o.op = .slice ty x (some lo) none none) (ht : P.underlying ty = some (.slice (P.elem ty))) (hz : ∀ w,(sizeOf (P.elem ty)).run P w = .ok 1 w) {A : Option Addr} {n c u : Nat} (hx : a.eval x = .slice A n c) (hlo : a.eval lo = .int .i64 (u : Int)) (hu : u ≤ n)
  {A2 : Option Addr} (hA : A2 = restA A c u) {m2 c2 : Nat} (hm : m2 = n - u) (hc2 : c2 = c - u) (h : K (a.put o.dst (.slice A2 m2 c2)) w) : o.wp P a w K Q := by
 unfold Oper.wp execOp
 have e := run_slice_l (P := P) w ty A n c ht .i64 (u : Int) (by omega) (by omega)
 simp only [ho,hx,hlo,Option.map_some,Option.map_none,Sem.run_bind,run_sliceAt_slice w ty _ _ _ _ ht,e,hz,Result.andThen_ok,Int.toNat_natCast,sliced,Nat.mul_one]
 subst hA hm hc2
 exact h
theorem wpList_slice_rest (hg : o.guard = none) (ty : TypeId) (x lo : Operand) (ho : o.op = .slice ty x (some lo) none none) (ht : P.underlying ty = some (.slice (P.elem ty))) (hz : ∀ w,(sizeOf (P.elem ty)).run P w = .ok 1 w) {A : Option Addr} {n c u : Nat} (hx : a.eval x = .slice A n c) (hlo : a.eval lo = .int .i64 (u : Int)) (hu : u ≤ n)
  {A2 : Option Addr} (hA : A2 = restA A c u) {m2 c2 : Nat} (hm : m2 = n - u) (hc2 : c2 = c - u) (h : wpList P ops Q rest (a.put o.dst (.slice A2 m2 c2)) w) : wpList P ops Q (o :: rest) a w :=
 wpList_plain hg fun _ hK => wp_slice_rest ty x lo ho ht hz hx hlo hu hA hm hc2 (hK _ _ h)
end
theorem wpList_build_eq {P : Program} {ops : Array Oper} {rest : List Oper} {o : Oper} {a : Act} {w : World} {Q : Exit → Act → World → Prop} (hw : Region.wanted o (yielded ops a.tmps) = true) (t : TypeId) (parts : Array (Nat × Operand)) (ho : o.op = .build t parts) (vs : List (Nat × Value)) (hv : (parts.map fun (i,x) => (i,a.eval x)).toList = vs) (cells : List Value)
  (hf : P.built t vs = some cells.toArray) (h : wpList P ops Q rest (a.put o.dst (.agg cells.toArray)) w) : wpList P ops Q (o :: rest) a w :=
 BigFrame.wpList_want hw fun _ hK => wp_build t parts ho (by rw [hv,hf];rfl) (by rw [hv,hf];exact hK _ _ h)
theorem rd_restA {w : World} {B n c u : Nat} {A A2 : Option Addr} {l : List Int} (h : Rd w B A n (u8s l)) (hA : A2 = restA A c u) {m2 : Nat} (hm : m2 = n - u) (hu : u ≤ n) (hnc : n ≤ c) : Rd w B A2 m2 (u8s (l.drop u)) := by
 subst hA hm
 refine ⟨by have := h.1;simp only [u8s,List.length_map,List.length_drop] at this ⊢;omega,fun hn => ?_⟩
 obtain ⟨b,o,hA,hb,hc⟩ := h.2 (by omega)
 refine ⟨b,o + u,?_,hb,fun j v hv => ?_⟩
 ·unfold restA
  rw [if_neg (by omega),hA]
  simp [Addr.add]
 ·rw [Nat.add_assoc]
  refine hc (u + j) v ?_
  rw [← hv]
  simp only [u8s,List.map_drop,List.getElem?_drop]
end Go.Proofs.YtojcmcccahjphaaGreatDoor
/- Two rows of bytes compared. No condition. -/
namespace Go.Proofs.YtojcmcccahjphaaGreatDoor
open Go.RowKit
open Lib (hid)
end Go.Proofs.YtojcmcccahjphaaGreatDoor
/- The walks of the reference's GetDigests and SameDigests. No condition beyond a bound on the length. -/
namespace Go.Proofs.YtojcmcccahjphaaGreatDoor
open Go.RowKit
open Lib (hid)
end Go.Proofs.YtojcmcccahjphaaGreatDoor
/- What is read of a review (plain), and review.read at inputs that it refuses. Conditions: at most 10^12 bytes. -/
namespace Go.Proofs.YtojcmcccahjphaaGreatDoor
open Go.RowKit
open Lib (hid)
attribute [local go_sem ↓] wp_at_zero wp_at_succ
def cut1 (l : List Int) := decList getI l
def rest1 (l : List Int) := l.drop (cut1 l).2.1.toNat
def cut2 (l : List Int) := getI (rest1 l)
def rest2 (l : List Int) := (rest1 l).drop (cut2 l).2.1.toNat
def cut3 (l : List Int) := decList getI (rest2 l)
def rest3 (l : List Int) := (rest2 l).drop (cut3 l).2.1.toNat
def cut4 (l : List Int) := decD (rest3 l)
def rest4 (l : List Int) := (rest3 l).drop (cut4 l).2.1.toNat
def cut5 (l : List Int) := decS (rest4 l)
def bad1 (l : List Int) : Prop := (cut1 l).2.2 ≠ 0 ∨ (cut1 l).1.length ≠ 3
def bad2 (l : List Int) : Prop := (cut2 l).2.2 ≠ 0
def bad3 (l : List Int) : Prop := (cut3 l).2.2 ≠ 0 ∨ (cut3 l).1.length % 3 ≠ 0
def bad4 (l : List Int) : Prop := (cut4 l).2.2 ≠ 0 ∨ (cut4 l).1.length ≠ 1
def bad5 (l : List Int) : Prop := (cut5 l).2.2 ≠ 0
instance (l : List Int) : Decidable (bad1 l ∨ bad2 l ∨ bad3 l ∨ bad4 l ∨ bad5 l) := by unfold bad1 bad2 bad3 bad4 bad5;infer_instance
theorem elem_u8 : Tryz.prog.underlying 49 = some (.slice (Tryz.prog.elem 49)) := by kernel_rfl
theorem elem_sz : ∀ w,(sizeOf (Tryz.prog.elem 49)).run Tryz.prog w = .ok 1 w := fun w => by kernel_rfl
theorem cut1_cases (l : List Int) (hb : Byt l) : (cut1 l).2.2 ≠ 0 ∧ (cut1 l).1 = [] ∧ (cut1 l).2.1 = 0 ∨ ∃ (xs : List Int) (u : Nat),cut1 l = (xs,(u : Int),0) ∧ u ≤ l.length ∧ encL encInt xs = l.take u ∧ ∀ x ∈ xs,-9223372036854775808 ≤ x ∧ x ≤ 9223372036854775807 := by
 unfold cut1
 rcases decList_canon getI encInt (fun x => -9223372036854775808 ≤ x ∧ x ≤ 9223372036854775807) l hb (fun r hr _ => oneI_canon r hr) with ⟨er,hg,her⟩ | ⟨xs,u,hg,hu,henc,hq⟩
 ·rw [hg];exact Or.inl ⟨her,rfl,rfl⟩
 ·exact Or.inr ⟨xs,u,hg,hu,henc,hq⟩
theorem decS_cases' (l : List Int) (hb : Byt l) : (decS l).2.2 ≠ 0 ∧ (decS l).1 = ByteArray.empty ∧ (decS l).2.1 = 0 ∨ ∃ (s : ByteArray) (u : Nat),decS l = (s,(u : Int),0) ∧ u ≤ l.length ∧ encB s = l.take u := by
 rcases decS_cases l hb with ⟨er,hg,her⟩ | ⟨s,k,u,hg,_,_,_,_,_,_,hu,henc⟩
 ·rw [hg];exact Or.inl ⟨by rcases her with rfl | rfl <;> decide,rfl,rfl⟩
 ·exact Or.inr ⟨s,u,hg,hu,henc⟩
theorem encL_ge (xs l : List Int) (u : Nat) (h : encL encInt xs = l.take u) : xs.length ≤ u := by
 have h1 := congrArg List.length h
 have h2 := flat_len encInt xs (fun x _ => by rw [encInt_length];omega)
 unfold encL at h1
 rw [List.length_append,List.length_take] at h1
 omega
end Go.Proofs.YtojcmcccahjphaaGreatDoor
/- review.read at inputs that it takes. Conditions: at most 10^12 bytes. -/
namespace Go.Proofs.YtojcmcccahjphaaGreatDoor
open Go.RowKit
open Lib (hid)
attribute [local go_sem ↓] wp_at_zero wp_at_succ
attribute [local go_sem] Oper.semAt_some
theorem build_id (a b c : Int) : Tryz.prog.built 23 [(0,.int .i64 a),(1,.int .i64 b),(2,.int .i64 c)] = some (idC ⟨a,b,c⟩).toArray := by kernel_rfl
theorem own_geq {w : World} {base : Nat} {e : TypeId} {size : Nat} {v : Value} {n : Nat} {xs : List Value} (ho : w.ownsRow base e size v n xs) {b : Nat} (hb : v.ownBlock = some b) : base ≤ b := by
 rcases ho.2 with ⟨hv,_⟩ | ⟨g,cap,cur,hv,hg,_⟩
 ·rw [hv] at hb;cases hb
 ·rw [hv] at hb
  simp only [Value.ownBlock,Option.some.injEq] at hb
  omega
theorem Kept.putObj {F : Nat → Prop} (w : World) {l : Nat} (hl : F l) (o : Obj) : Kept F w (w.putObj l o) := ⟨rfl,rfl,rfl,by simp [World.putObj],fun k _ hf => World.putObj_heap_other (fun h => hf (by rw [h];exact hl))⟩
theorem own_at {w : World} {base : Nat} {e : TypeId} {size n c : Nat} {A : Option Addr} {xs : List Value} (h : w.ownsRow base e size (.slice A n c) n xs) (hn : 0 < n) : ∃ g,A = some ⟨g,0,none⟩ ∧ base ≤ g ∧ g < w.heap.size ∧ ∀ j u,xs[j]? = some u → w.cell? ⟨g,j,none⟩ = some u := by
 obtain ⟨b,o,hA,hb,hc⟩ := (rdn_own h).2 hn
 have hf := own_far h hA
 rcases h.2 with ⟨hv,h0⟩ | ⟨g,cap,cur,hv,hg,_⟩
 ·omega
 ·injection hv with hv
  rw [hA] at hv
  injection hv with hv
  injection hv with h1 h2
  subst h1 h2
  exact ⟨b,hA,hf,hb,fun j u hu => by have := hc j u hu;rwa [Nat.zero_add] at this⟩
end Go.Proofs.YtojcmcccahjphaaGreatDoor
/- The order of the encodings of integers, in plain lists and as strings. No condition. -/
namespace Go.Proofs.YtojcmcccahjphaaGreatDoor
open Go.RowKit
open Lib (hid)
theorem eqs_str (x y : List Int) (hx : Byt x) (hy : Byt y) : ((strOf x).toList == (strOf y).toList) = decide (x = y) := by
 rw [ByteArray.toList_eq,ByteArray.toList_eq,Bool.eq_iff_iff]
 simp only [beq_iff_eq,decide_eq_true_eq]
 constructor
 ·intro h
  have a := bys_strOf x hx
  have b := bys_strOf y hy
  unfold bys at a b
  rw [← a,← b,h]
 ·rintro rfl;rfl
end Go.Proofs.YtojcmcccahjphaaGreatDoor
/- bytes.Equal and bytes.HasPrefix. Conditions: the slices can be read. -/
namespace Go.Proofs.YtojcmcccahjphaaGreatDoor
open Go.RowKit
open Lib (hid)
theorem bequal_any (l p : List Int) (A B : Option Addr) (n c m d : Nat) (w : World) (hl : Rd w w.heap.size A n (u8s l)) (hb : Byt l) (hp : Rd w w.heap.size B m (u8s p)) (hq : Byt p) :
  Calls Tryz.prog 73 #[.slice A n c,.slice B m d] w fun e w' => e = .returned (.bool (decide (l = p))) ∧ Ext w w' := by
 obtain ⟨S1,hS1⟩ : ∃ s,s = strOf l := ⟨_,rfl⟩
 obtain ⟨S2,hS2⟩ : ∃ s,s = strOf p := ⟨_,rfl⟩
 have h1 : (convert 49 9 (.slice A n c)).run Tryz.prog w = .ok (.string S1) w := by
  rw [hS1]
  exact run_toStr (P := Tryz.prog) Tryz.underlying49 Tryz.underlying5 Tryz.underlying9 hl c (fun _ => by cases A <;> simp)
 have h2 : (convert 49 9 (.slice B m d)).run Tryz.prog w = .ok (.string S2) w := by
  rw [hS2]
  exact run_toStr (P := Tryz.prog) Tryz.underlying49 Tryz.underlying5 Tryz.underlying9 hp d (fun _ => by cases B <;> simp)
 have h3 : (S1.toList == S2.toList) = decide (l = p) := by rw [hS1,hS2];exact eqs_str l p hb hq
 have h3' := hid h3
 obtain ⟨t,ht⟩ : ∃ t,t = decide (l = p) := ⟨_,rfl⟩
 rw [← ht] at h3 h3' ⊢
 clear hl hp hb hq hS1 hS2 ht
 go_enter Tryz.func73,Tryz.ntmps73
 go_wp2_with fail
 go_ret
 exact ⟨rfl,Ext.refl _⟩
theorem rd_take {w : World} {B n m : Nat} {A : Option Addr} {l : List Int} (h : Rd w B A n (u8s l)) (hm : m ≤ n) : Rd w B A m (u8s (l.take m)) := by
 refine ⟨by have := h.1;simp only [u8s,List.length_map,List.length_take] at this ⊢;omega,fun hn => ?_⟩
 obtain ⟨b,o,hA,hb,hc⟩ := h.2 (by omega)
 refine ⟨b,o,hA,hb,fun j v hv => hc j v ?_⟩
 have hj : j < m := by
  have := (List.getElem?_eq_some_iff.1 hv).1
  simp only [u8s,List.length_map,List.length_take] at this
  omega
 rw [← hv]
 simp only [u8s,List.getElem?_map,List.getElem?_take,if_pos hj]
def preB (l p : List Int) : Bool := decide (l.take p.length = p)
theorem preB_long {l p : List Int} (h : l.length < p.length) : preB l p = false := by
 unfold preB
 rw [decide_eq_false_iff_not]
 intro h2
 have := congrArg List.length h2
 rw [List.length_take] at this
 omega
theorem hasPrefix_any (l p : List Int) (A B : Option Addr) (n c m d : Nat) (w : World) (hl : Rd w w.heap.size A n (u8s l)) (hb : Byt l) (hp : Rd w w.heap.size B m (u8s p)) (hq : Byt p) (hnc : n ≤ c) (hc : c ≤ 9223372036854775807) (hmc : m ≤ 9223372036854775807) :
  Calls Tryz.prog 41 #[.slice A n c,.slice B m d] w fun e w' => e = .returned (.bool (preB l p)) ∧ Ext w w' := by
 have hln : l.length = n := by have := hl.1;simpa [u8s] using this
 have hpm : p.length = m := by have := hp.1;simpa [u8s] using this
 by_cases hmn : m ≤ n
 ·have HE : Hid (Calls Tryz.prog 73 #[.slice A m c,.slice B m d] w fun e w' => e = .returned (.bool (preB l p)) ∧ Ext w w') := hid (by
   have h := bequal_any (l.take m) p A B m c m d w (rd_take hl hmn) (hb.take m) hp hq
   unfold preB
   rw [hpm]
   exact h)
  obtain ⟨t,ht⟩ : ∃ t,t = preB l p := ⟨_,rfl⟩
  rw [← ht] at HE ⊢
  have hge : decide ((m : Int) ≤ (n : Int)) = true := decide_eq_true (by omega)
  clear hl hp hb hq ht hln hpm
  rcases A with _ | ⟨b,o,f⟩
  ·go_enter Tryz.func41,Tryz.ntmps41
   go_wp2_with (go_at_call 73;(with_reducible refine HE.out.mono ?_);rintro e w2 ⟨rfl,hE2⟩)
   go_ret
   exact ⟨rfl,hE2⟩
  ·go_enter Tryz.func41,Tryz.ntmps41
   go_wp2_with (go_at_call 73;(with_reducible refine HE.out.mono ?_);rintro e w2 ⟨rfl,hE2⟩)
   all_goals go_ret
   all_goals exact ⟨rfl,hE2⟩
 ·rw [preB_long (l := l) (p := p) (by omega)]
  have hge : decide ((m : Int) ≤ (n : Int)) = false := decide_eq_false (by omega)
  clear hl hp hb hq hln hpm
  go_enter Tryz.func41,Tryz.ntmps41
  go_wp2_with fail
  go_ret
  exact ⟨rfl,Ext.refl _⟩
end Go.Proofs.YtojcmcccahjphaaGreatDoor
/- review.Decode. Conditions: at most 10^12 bytes. -/
namespace Go.Proofs.YtojcmcccahjphaaGreatDoor
open Go.RowKit
open Lib (hid)
attribute [local go_sem ↓] wp_at_zero wp_at_succ
theorem results_blk_bit3 {P : Program} {fn : Func} {p u v : Tmp} {ty : TypeId} (h : fn.results = #[ResultVar.cell p ty,.tmp u,.tmp v]) (tmps : Array Value) (w : World) (g : Nat) (t : TypeId) (cs : List Value) (d : TypeDesc) (hp : tmps.getD p undef = .pointer (some ⟨g,0,none⟩))
  (hb : Blk w g t cs) (hu : P.underlying ty = some d) (hd : d.isRow = true) (hi : (P.info? ty).map (·.size) = some cs.length) : (results fn tmps).run P w = .ok (.tuple #[.agg cs.toArray,tmps.getD u undef,tmps.getD v undef]) w := by
 have hp' : tmps[p]?.getD undef = .pointer (some ⟨g,0,none⟩) := by simpa using hp
 simp [results,h,hp',asAddr,run_loadVar_row w g t ty cs.toArray (0,0) d hb hu (by cases d <;> first | rfl | cases hd) (by rw [hi,List.size_toArray])]
theorem wpList_store_freshw {P : Program} {ops : Array Oper} {rest : List Oper} {o : Oper} {a : Act} {w : World} {Q : Exit → Act → World → Prop} (hgd : o.guard = none) (ty : TypeId) (x y : Operand) (ho : o.op = Op.store ty x y) (g : Nat) (hg : g = w.heap.size) (Z U : List Value) (t : TypeId) (hx : a.eval x = .pointer (some ⟨g,0,none⟩)) (hy : a.eval y = .agg U.toArray)
  (hi : (P.info? ty).map (·.size) = some U.length) (hl : Z.length = U.length) (h1 : ∀ v ∈ U,v.oneCell' = true)
  (h : ∀ w2,Blk w2 g t U → Ext w w2 → w.heap.size < w2.heap.size → wpList P ops Q rest (a.put o.dst undef) w2) : wpList P ops Q (o :: rest) a (w.alloc (.cells Z.toArray t)) :=
 wpList_store_fresh hgd ty x y ho _ g hg Z U t hx hy rfl hi hl h1 h
end Go.Proofs.YtojcmcccahjphaaGreatDoor
/- slices.Index, Contains, IndexFunc, ContainsFunc at IDs and reviews. Conditions: the slices can be read. -/
namespace Go.Proofs.YtojcmcccahjphaaGreatDoor
open Go.RowKit
open Lib (hid)
attribute [local go_sem ↓] wp_at_zero wp_at_succ
theorem rid_at {w : World} {B n : Nat} {A : Option Addr} {L : List Rid} (h : RdN w B 3 A n (idsC L)) (hn : 0 < n) : ∃ b p,A = some ⟨b,p,none⟩ ∧ b < B ∧ ∀ W : World,(∀ a : Addr,a.block < B → W.cell? a = w.cell? a) → ∀ k x,L[k]? = some x → W.rangeAt b (p + k * 3) [.int .i64 x.s,.int .i64 x.q,.int .i64 x.i] := by
 obtain ⟨b,p,hA,hb,hc⟩ := h.2 hn
 refine ⟨b,p,hA,hb,fun W hW k x hx => ?_⟩
 exact ids_range (L := L) (fun j u hu => (hW _ hb).trans (hc j u hu)) hx
theorem idsC_n {w : World} {B n : Nat} {A : Option Addr} {L : List Rid} (h : RdN w B 3 A n (idsC L)) : L.length = n := by
 have := h.1
 rw [idsC_len] at this
 omega
end Go.Proofs.YtojcmcccahjphaaGreatDoor
