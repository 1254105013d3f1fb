/- A region that draws its order inside a round of a range over a function, by the flow of its data. No condition. -/
import Derived.Test.YtjeecfjeooehhaaGreatDoorM4
import Derived.RangeFuncBox
import Derived.RangeFuncLeaves
import Derived.RangeFuncCalls
import Derived.RangeFuncFrom
import Derived.OwnWalkIn
import Derived.TacticsInMore
import Derived.LoopNIn
import Derived.LoopIn
import Derived.OrdersIn
import Derived.Test.YtjeecfjeooehhaaGreatDoorM11
import Derived.Test.YtjeecfjeooehhaaGreatDoorM1
import Derived.Stop.BytesEq
import Derived.Test.YtjeecfjeooehhaaGreatDoorM10
import Derived.Deep.RegionHeld3
set_option linter.unusedSimpArgs false
set_option linter.unusedVariables false
set_option maxHeartbeats 16000000
set_option maxRecDepth 100000
namespace Go.Proofs.YtjeecfjeooehhaaGreatDoor
open Go.RowKit
open Lib (hid)
section
variable {P : Program} {Q : Exit → Act → World → Prop}
def noDefer (o : Oper) : Bool := match o.op with
 | .defer _ => false
 | _ => true
theorem oper_in (l n : Nat) {o : Oper} {a : Act} {w : World} {K : Act → World → Prop} (hd : noDefer o = true) (h : o.wp P a w K Q) : o.wpIn (Fence.wide.inRound l) n P a w K Q := by
 unfold Oper.wpIn
 refine ⟨fun _ _ => trivial,?_⟩
 show o.uponIn (Fence.wide.inRound l) n P a K Q ((o.semAt (some l) a.eval).run P w)
 rw [Oper.semAt_some l _ o (fun c hc => by unfold noDefer at hd;rw [hc] at hd;cases hd)]
 unfold Oper.wp at h
 generalize hx : (execOp a.eval o).run P w = r at *
 cases r with
 | ok x w' =>
  cases x <;>
   first
    | exact h
    | exact ⟨fun h => (by cases h),CallsIn.mono (callsIn_wide.2 h) (fun e w'' he => by cases e <;> exact he)⟩
    | exact ⟨fun h => (by cases h),fun c cs _ => let ⟨v,w',r,s⟩ := h c cs;⟨v,w',r,stepsIn_wide.2 s⟩⟩
    | exact h.elim
 | halt x w' => cases x <;> exact h
theorem wpOp_in {ops : Array Oper} (l n : Nat) {i : Nat} {a : Act} {w : World} {K K' : Act → World → Prop} (hd : ∀ o,ops[i]? = some o → noDefer o = true) (hQ : ¬ LetsOut Q) (hK : ∀ a w,K a w → K' a w) (h : wpOp P ops Q i K a w) : wpOpIn (Fence.wide.inRound l) n P ops Q i K' a w := by
 unfold wpOp at h
 unfold wpOpIn
 split
 ·rename_i ho;simp only [ho] at h;exact hK _ _ h
 ·rename_i o ho
  simp only [ho] at h
  split
  ·rename_i hw
   rw [if_pos hw] at h
   rcases h with h | h
   ·exact oper_in l n (hd o ho) (Oper.wp_mono hK h)
   ·exact absurd h.2 hQ
  ·rename_i hw
   rw [if_neg hw] at h
   exact ⟨fun _ _ => trivial,hK _ _ h⟩
theorem wpAny_in {ops : Array Oper} {md : Region.Mode} (l n : Nat) (hd : ∀ (i : Nat) o,ops[i]? = some o → noDefer o = true) (hQ : ¬ LetsOut Q) : ∀ (fuel : Nat) (listed : Array Bool) (a : Act) (w : World),wpAny P md ops Q fuel listed a w → wpAnyIn (Fence.wide.inRound l) n P md ops Q fuel listed a w
 | 0,_,_,_,h => h
 | fuel + 1,listed,a,w,h => ⟨h.1,fun i hi => wpOp_in l n (hd i) hQ (fun a w => wpAny_in l n hd hQ fuel _ a w) (h.2 i hi)⟩
theorem wpIn_region_flowF (l0 m : Nat) {id : Nat} {a : Act} {w : World} {l : List Oper} (hnd : l.all noDefer = true) (hQ : ¬ LetsOut Q) (n : Nat) (F : (Nat → Value) → Act) (hF : ∀ us,flowAct us (l.take n) 0 a = F us) (hm : P.follows .mixedOrders = true) (hB : flowB l n = true) (R : World → World → Prop) (hR0 : ∀ w,R w w) (hRt : ∀ {x y z},R x y → R y z → R x z) (Raw : Nat → Value → World → Prop)
  (hs : flowStepsF P l Q F R Raw w.drew (l.take n) 0)
  (ht : ∀ us W,R w.drew W → (∀ j,j < n → Raw j (us j) W) → wpList P l.toArray Q (l.drop n) (F us) W) : (Code.region id l.toArray true).wpIn (Fence.wide.inRound l0) m P Q a w := by
 refine wpIn_region_any hm ?_
 refine wpAny_in l0 m (fun i o ho => ?_) hQ _ _ _ _ ?_
 ·rw [List.getElem?_toArray] at ho
  exact List.all_eq_true.1 hnd o (List.mem_of_getElem? ho)
 have hs' := flowStepsF_of (P := P) (Q := Q) (a := a) hF hs
 have ht' : ∀ us W,R w.drew W → (∀ j,j < n → Raw j (us j) W) → wpList P l.toArray Q (l.drop n) (flowAct us (l.take n) 0 a) W := fun us W h1 h2 => by rw [hF];exact ht us W h1 h2
 have hn : n ≤ l.length := by
  simp only [flowB,Bool.and_eq_true,decide_eq_true_eq] at hB
  exact hB.1.1.1.1
 let us0 : Nat → Value := fun i => match (l.take n)[i]? with | some o => (match o.dst with | some d => a.tmps.getD d undef | none => undef) | none => undef
 have h0 : flowAct us0 (l.take n) 0 a = a := flowAct_own (l.take n) 0 a us0 fun i o ho => by simp only [us0,Nat.zero_add,ho];cases o.dst <;> rfl
 have hc : cntU n (Array.replicate l.toArray.size false) = n := by
  unfold cntU
  rw [List.filter_eq_self.2 (fun i _ => by rw [getD_replicate_false];rfl),List.length_range]
 have inv0 : HeadInv .any l.toArray n (Array.replicate l.toArray.size false) :=
  ⟨by simp,fun j oj _ hl => (by rw [getD_replicate_false] at hl;cases hl),fun t _ ht => getD_in (by simpa using ht) (getD_replicate_false _ _)⟩
 have H := flow_any (Q := Q) hB hR0 (fun h1 h2 => hRt h1 h2) hs' ht' n _ us0 w.drew hc inv0 (hR0 _) (fun j _ hj => by rw [getD_replicate_false] at hj;cases hj)
 rw [h0,show n + (l.length - n) = l.toArray.size by simp;omega] at H
 exact H
end
end Go.Proofs.YtjeecfjeooehhaaGreatDoor
/- slices.Chunk over a slice of integers whose length is a multiple of the chunks' size. Conditions: the slice can be read; size at least 1. -/
namespace Go.Proofs.YtjeecfjeooehhaaGreatDoor
open Go.RowKit
open Lib (hid)
attribute [local go_sem] Oper.semAt_some
abbrev Bel (m : Nat) := { k : Nat // k < m }
def upB (m : Nat) : Nat → List (Bel m)
 | 0 => []
 | k + 1 => if h : k < m then upB m k ++ [⟨k,h⟩] else upB m k
theorem upB_succ {m k : Nat} (h : k < m) : upB m (k + 1) = upB m k ++ [⟨k,h⟩] := by
 rw [upB,dif_pos h]
theorem upB_val (m : Nat) : ∀ k,k ≤ m → (upB m k).map (·.1) = List.range k
 | 0,_ => rfl
 | k + 1,h => by rw [upB_succ (by omega),List.map_append,upB_val m k (by omega),List.range_succ];rfl
theorem upB_len (m k : Nat) (h : k ≤ m) : (upB m k).length = k := by
 have := congrArg List.length (upB_val m k h)
 simpa using this
def chunkV (b o q k : Nat) : Value := .slice (some ⟨b,o + q * k,none⟩) q q
def KpB (Bs Bn : Nat) (A B : World) : Prop := B.cell? ⟨Bs,0,none⟩ = A.cell? ⟨Bs,0,none⟩ ∧ B.cell? ⟨Bn,0,none⟩ = A.cell? ⟨Bn,0,none⟩
theorem KpB.trans {Bs Bn : Nat} {A B C : World} (h : KpB Bs Bn A B) (k : KpB Bs Bn B C) : KpB Bs Bn A C := ⟨k.1.trans h.1,k.2.trans h.2⟩
theorem chunk1_in (l Bs Bn b o len c q m : Nat) (hq : 1 ≤ q) (hm : len = q * m) (hlc : len ≤ c) (hc : c ≤ 9223372036854775807) (J Jx : List (Bel m) → World → Prop)
  (hY : ∀ pre x W,J pre W → pre.length < m → YieldAt Fence.wide 4 Tryz.prog l #[chunkV b o q x.1] W fun e W' =>
   (e = .returned (.bool true) ∧ J (pre ++ [x]) W' ∧ KpB Bs Bn W W') ∨ (e = .returned (.bool false) ∧ Jx (pre ++ [x]) W'))
  (hJd : ∀ pre W,J pre W → J pre W.drew)
  (W : World) (hBs : W.cell? ⟨Bs,0,none⟩ = some (.slice (some ⟨b,o,none⟩) len c)) (hBn : W.cell? ⟨Bn,0,none⟩ = some (.int .i64 (q : Int))) (h0 : J [] W) :
  CallsIn Fence.wide 5 Tryz.prog 118 #[.func (.yield l) #[] #[],.pointer (some ⟨Bs,0,none⟩),.pointer (some ⟨Bn,0,none⟩)] W fun e W' => (∃ v,e = .returned v) ∧
   ((∃ ys,ys = upB m m ∧ J ys W') ∨ (∃ pre,True ∧ Jx pre W')) := by
 refine callsIn_of_wp Tryz.func118 rfl trivial ?_ rfl
 simp only [Tryz.ntmps118,List.size_toArray,List.length_cons,List.length_nil,Nat.reduceAdd,Nat.reduceSub,Array.replicate_succ,Array.replicate_zero,List.push_toArray,List.append_toArray,List.nil_append,List.cons_append]
 gi_wp2
 gi_loopw [4] (fun i wr => ∃ k p : Nat,p = q * k ∧ k ≤ m ∧ i = .int .i64 (p : Int) ∧ J (upB m k) wr ∧ KpB Bs Bn W wr)
  (fun i _ => len - (intOf i).toNat)
 case atStart => exact ⟨0,0,rfl,Nat.zero_le _,rfl,h0,⟨rfl,rfl⟩⟩
 case round =>
  obtain ⟨k,p,hp,hk,rfl,hJs,hnx⟩ := hrel
  have hcs : wr.cell? ⟨Bs,0,none⟩ = some (.slice (some ⟨b,o,none⟩) len c) := hnx.1.trans hBs
  have hcn : wr.cell? ⟨Bn,0,none⟩ = some (.int .i64 (q : Int)) := hnx.2.trans hBn
  by_cases hlt : k < m
  ·have hpq : p + q ≤ len := by
    rw [hp,hm]
    have : q * (k + 1) ≤ q * m := Nat.mul_le_mul_left q hlt
    rw [Nat.mul_succ] at this;exact this
   obtain ⟨fn,tmps,assign,body,hy,hR⟩ := hY _ ⟨k,hlt⟩ wr.drew (hJd _ _ hJs) (by rw [upB_len m k hk];exact hlt)
   dsimp only [chunkV] at hy
   rw [← hp] at hy
   have hplt : p < len := by omega
   have HP := hid hp
   have HM := hid hm
   clear hp hm
   gi_wp2
   refine wpIn_wide.2 ?_
   go_region
   gi_wp2
   refine hR.mono ?_
   rintro e W3 (⟨rfl,hJ3,hk3⟩ | ⟨rfl,hJx3⟩)
   ·have hk4 : KpB Bs Bn W W3 := hnx.trans ⟨hk3.1,hk3.2⟩
    have hcn3 : W3.cell? ⟨Bn,0,none⟩ = some (.int .i64 (q : Int)) := hk4.2.trans hBn
    gi_wp2
    go_roundw
    case rel => exact ⟨k + 1,p + q,by rw [HP.out,Nat.mul_succ],by omega,by rw [Int.natCast_add],by rw [upB_succ hlt];exact hJ3,hk4⟩
    case measure => simp [intOf];omega
   ·gi_wp2
    refine bodyPost_ret (results_none rfl _ _ _) rfl ?_
    exact ⟨⟨_,rfl⟩,.inr ⟨_,trivial,hJx3⟩⟩
  ·obtain rfl : k = m := by omega
   have hpl : p = len := by omega
   subst hpl
   gi_wp2
   go_end0
   exact ⟨⟨_,rfl⟩,.inl ⟨_,rfl,hJs⟩⟩
theorem chunk1_nil (l Bs Bn : Nat) (A : Option Addr) (c : Nat) (J : World → Prop) (W : World) (hBs : W.cell? ⟨Bs,0,none⟩ = some (.slice A 0 c)) (h0 : J W) :
  CallsIn Fence.wide 5 Tryz.prog 118 #[.func (.yield l) #[] #[],.pointer (some ⟨Bs,0,none⟩),.pointer (some ⟨Bn,0,none⟩)] W fun e W' => (∃ v,e = .returned v) ∧ J W' := by
 refine callsIn_of_wp Tryz.func118 rfl trivial ?_ rfl
 simp only [Tryz.ntmps118,List.size_toArray,List.length_cons,List.length_nil,Nat.reduceAdd,Nat.reduceSub,Array.replicate_succ,Array.replicate_zero,List.push_toArray,List.append_toArray,List.nil_append,List.cons_append]
 gi_wp2
 gi_loopw [4] (fun i wr => i = .int .i64 0 ∧ wr = W) (fun _ _ => 0)
 case atStart => exact ⟨rfl,rfl⟩
 case round =>
  obtain ⟨rfl,rfl⟩ := hrel
  gi_wp2
  go_end0
  exact ⟨⟨_,rfl⟩,h0⟩
theorem chunk1_stops (Bs Bn len c q m : Nat) (A : Option Addr) (hq : 1 ≤ q) (hm : len = q * m) (hlc : len ≤ c) (hc : c ≤ 9223372036854775807) (w : World) (hbn : Bs < w.heap.size) (hbn2 : Bn < w.heap.size)
  (hBs : w.cell? ⟨Bs,0,none⟩ = some (.slice A len c)) (hBn : w.cell? ⟨Bn,0,none⟩ = some (.int .i64 (q : Int))) (b o : Nat) (hA : 0 < len → A = some ⟨b,o,none⟩) :
  SeqStopsK Fence.wide 5 Tryz.prog 118 #[.pointer (some ⟨Bs,0,none⟩),.pointer (some ⟨Bn,0,none⟩)] (fun x : Bel m => #[chunkV b o q x.1]) (KpB Bs Bn) (fun ys => ys = upB m m) (fun _ => True) m w := fun l J Jx W hW hJ hJx hY h0 => by
 have hcs := (hW.cell (p := ⟨Bs,0,none⟩) hbn).trans hBs
 have hcn := (hW.cell (p := ⟨Bn,0,none⟩) hbn2).trans hBn
 rcases Nat.eq_zero_or_pos len with h | h
 ·subst h
  have hm0 : m = 0 := by
   rcases Nat.mul_eq_zero.1 hm.symm with h | h <;> omega
  subst hm0
  exact (chunk1_nil l Bs Bn A c (J []) W hcs h0).mono fun e W' ⟨he,hj⟩ => ⟨he,.inl ⟨[],rfl,hj⟩⟩
 ·rw [hA h] at hcs
  refine (chunk1_in l Bs Bn b o len c q m hq hm hlc hc J Jx hY (fun pre W hj => hJ pre W W.drew none hj ⟨rfl,rfl,rfl,Nat.le_refl _,fun i hi _ => rfl⟩ (fun r e => by cases e)) W hcs hcn h0).mono fun e W' h => h
theorem chunk_any (A : Option Addr) (n c q : Nat) (hq : 1 ≤ q) (w : World) :
  Calls Tryz.prog 72 #[.slice A n c,.int .i64 (q : Int)] w fun e w' => e = .returned (.func (.func 118) #[] #[.pointer (some ⟨w.heap.size,0,none⟩),.pointer (some ⟨w.heap.size + 1,0,none⟩)]) ∧ w' = (w.alloc (.cells #[.slice A n c] 22)).alloc (.cells #[.int .i64 (q : Int)] 3) := by
 have h1 : decide ((q : Int) < 1) = false := decide_eq_false (by omega)
 clear hq
 go_enter Tryz.func72,Tryz.ntmps72
 go_wp2_with fail
 go_ret
 exact ⟨rfl,rfl⟩
end Go.Proofs.YtjeecfjeooehhaaGreatDoor
/- b[n:] of a slice of bytes, whatever is left of its capacity. No condition. -/
namespace Go.Proofs.YtjeecfjeooehhaaGreatDoor
open Go.RowKit
open Lib (hid)
def restA (A : Option Addr) (c u : Nat) : Option Addr := if c = u then A else A.map (·.add u)
section
variable {P : Program} {ops : Array Oper} {rest : List Oper} {o : Oper} {a : Act} {w : World} {Q : Exit → Act → World → Prop}
theorem wp_slice_rest {K : Act → World → Prop} (ty : TypeId) (x lo : Operand) (ho : o.op = .slice ty x (some lo) none none) (ht : P.underlying ty = some (.slice (P.elem ty))) (hz : ∀ w,(sizeOf (P.elem ty)).run P w = .ok 1 w) {A : Option Addr} {n c u : Nat} (hx : a.eval x = .slice A n c) (hlo : a.eval lo = .int .i64 (u : Int)) (hu : u ≤ n)
  {A2 : Option Addr} (hA : A2 = restA A c u) {m2 c2 : Nat} (hm : m2 = n - u) (hc2 : c2 = c - u) (h : K (a.put o.dst (.slice A2 m2 c2)) w) : o.wp P a w K Q := by
 unfold Oper.wp execOp
 have e := run_slice_l (P := P) w ty A n c ht .i64 (u : Int) (by omega) (by omega)
 simp only [ho,hx,hlo,Option.map_some,Option.map_none,Sem.run_bind,run_sliceAt_slice w ty _ _ _ _ ht,e,hz,Result.andThen_ok,Int.toNat_natCast,sliced,Nat.mul_one]
 subst hA hm hc2
 exact h
theorem wpList_slice_rest (hg : o.guard = none) (ty : TypeId) (x lo : Operand) (ho : o.op = .slice ty x (some lo) none none) (ht : P.underlying ty = some (.slice (P.elem ty))) (hz : ∀ w,(sizeOf (P.elem ty)).run P w = .ok 1 w) {A : Option Addr} {n c u : Nat} (hx : a.eval x = .slice A n c) (hlo : a.eval lo = .int .i64 (u : Int)) (hu : u ≤ n)
  {A2 : Option Addr} (hA : A2 = restA A c u) {m2 c2 : Nat} (hm : m2 = n - u) (hc2 : c2 = c - u) (h : wpList P ops Q rest (a.put o.dst (.slice A2 m2 c2)) w) : wpList P ops Q (o :: rest) a w :=
 wpList_plain hg fun _ hK => wp_slice_rest ty x lo ho ht hz hx hlo hu hA hm hc2 (hK _ _ h)
end
theorem wpList_build_eq {P : Program} {ops : Array Oper} {rest : List Oper} {o : Oper} {a : Act} {w : World} {Q : Exit → Act → World → Prop} (hw : Region.wanted o (yielded ops a.tmps) = true) (t : TypeId) (parts : Array (Nat × Operand)) (ho : o.op = .build t parts) (vs : List (Nat × Value)) (hv : (parts.map fun (i,x) => (i,a.eval x)).toList = vs) (cells : List Value)
  (hf : P.built t vs = some cells.toArray) (h : wpList P ops Q rest (a.put o.dst (.agg cells.toArray)) w) : wpList P ops Q (o :: rest) a w :=
 BigFrame.wpList_want hw fun _ hK => wp_build t parts ho (by rw [hv,hf];rfl) (by rw [hv,hf];exact hK _ _ h)
theorem rd_restA {w : World} {B n c u : Nat} {A A2 : Option Addr} {l : List Int} (h : Rd w B A n (u8s l)) (hA : A2 = restA A c u) {m2 : Nat} (hm : m2 = n - u) (hu : u ≤ n) (hnc : n ≤ c) : Rd w B A2 m2 (u8s (l.drop u)) := by
 subst hA hm
 refine ⟨by have := h.1;simp only [u8s,List.length_map,List.length_drop] at this ⊢;omega,fun hn => ?_⟩
 obtain ⟨b,o,hA,hb,hc⟩ := h.2 (by omega)
 refine ⟨b,o + u,?_,hb,fun j v hv => ?_⟩
 ·unfold restA
  rw [if_neg (by omega),hA]
  simp [Addr.add]
 ·rw [Nat.add_assoc]
  refine hc (u + j) v ?_
  rw [← hv]
  simp only [u8s,List.map_drop,List.getElem?_drop]
theorem results_blk_bit {P : Program} {fn : Func} {p u : Tmp} {ty : TypeId} (h : fn.results = #[ResultVar.cell p ty,.tmp u]) (tmps : Array Value) (w : World) (g : Nat) (t : TypeId) (cs : List Value) (d : TypeDesc) (hp : tmps.getD p undef = .pointer (some ⟨g,0,none⟩))
  (hb : Blk w g t cs) (hu : P.underlying ty = some d) (hd : d.isRow = true) (hi : (P.info? ty).map (·.size) = some cs.length) : (results fn tmps).run P w = .ok (.tuple #[.agg cs.toArray,tmps.getD u undef]) w := by
 have hp' : tmps[p]?.getD undef = .pointer (some ⟨g,0,none⟩) := by simpa using hp
 simp [results,h,hp',asAddr,run_loadVar_row w g t ty cs.toArray (0,0) d hb hu (by cases d <;> first | rfl | cases hd) (by rw [hi,List.size_toArray])]
end Go.Proofs.YtjeecfjeooehhaaGreatDoor
/- Two rows of bytes compared. No condition. -/
namespace Go.Proofs.YtjeecfjeooehhaaGreatDoor
open Go.RowKit
open Lib (hid)
end Go.Proofs.YtjeecfjeooehhaaGreatDoor
/- The walks of the reference's GetDigests and SameDigests. No condition beyond a bound on the length. -/
namespace Go.Proofs.YtjeecfjeooehhaaGreatDoor
open Go.RowKit
open Lib (hid)
end Go.Proofs.YtjeecfjeooehhaaGreatDoor
