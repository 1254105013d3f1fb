/- IDs: the small functions of review and of its reference. Conditions: none. -/
import Derived.Test.YtojcmcccahjphaaGreatDoorM3
import Derived.Test.YtojcmcccahjphaaGreatDoorM4
import Derived.Deep.DeepCutAuto
import Derived.Deep.CutBlock
import Derived.Laws.StructEq
set_option linter.unusedSimpArgs false
set_option linter.unusedVariables false
set_option maxHeartbeats 16000000
set_option maxRecDepth 100000
namespace Go.Proofs.YtojcmcccahjphaaGreatDoor
open Go.RowKit
open Lib (hid)
attribute [local go_sem ↓] wp_at_zero wp_at_succ
structure Rid where
 s : Int
 q : Int
 i : Int
deriving DecidableEq
def idC (x : Rid) : List Value := [.int .i64 x.s,.int .i64 x.q,.int .i64 x.i]
theorem idC_one (x : Rid) : ∀ v ∈ idC x,v.oneCell' = true := fun v hv => by
 simp only [idC,List.mem_cons,List.not_mem_nil,or_false] at hv
 rcases hv with rfl | rfl | rfl <;> rfl
theorem info_id : (Tryz.prog.info? 23).map (·.size) = some 3 := by kernel_rfl
def winB (n lo hi : Int) : Bool := decide (lo ≤ n) && decide (n ≤ hi)
def rnumB (s q : Int) : Bool := winB s 0 7 && winB q 1 16
def idB (x : Rid) : Bool := rnumB x.s x.q && winB x.i 0 31
theorem idB_iff (x : Rid) : idB x = true ↔ 0 ≤ x.s ∧ x.s ≤ 7 ∧ 1 ≤ x.q ∧ x.q ≤ 16 ∧ 0 ≤ x.i ∧ x.i ≤ 31 := by
 unfold idB rnumB winB
 simp only [Bool.and_eq_true,decide_eq_true_eq]
 omega
theorem validID_any (x : Rid) (w : World) : Calls Tryz.prog 33 #[.agg #[.int .i64 x.s,.int .i64 x.q,.int .i64 x.i]] w fun e w' => e = .returned (.bool (idB x)) ∧ Ext w w' := by
 have HI := hid (idB_iff x)
 obtain ⟨b,hb⟩ : ∃ b,b = idB x := ⟨_,rfl⟩
 rw [← hb] at HI ⊢
 clear hb
 have HI2 := hid (HI.out)
 obtain ⟨s,q,i⟩ := x
 have HI : Hid (b = true ↔ 0 ≤ s ∧ s ≤ 7 ∧ 1 ≤ q ∧ q ≤ 16 ∧ 0 ≤ i ∧ i ≤ 31) := hid HI2.out
 clear HI2
 dsimp only
 have fin : ∀ c : Bool,(c = true ↔ 0 ≤ s ∧ s ≤ 7 ∧ 1 ≤ q ∧ q ≤ 16 ∧ 0 ≤ i ∧ i ≤ 31) → Ending.returned (Value.bool c) = Ending.returned (Value.bool b) := fun c hc => by
  have : c = b := by
   have h2 := hc.trans HI.out.symm
   cases c <;> cases b <;> simp at h2 ⊢
  rw [this]
 go_enter Tryz.func33,Tryz.ntmps33
 go_upto_region 1 with fail
 have E1 : Hid (Ext w (w.alloc (.cells #[.int .i64 s,.int .i64 q,.int .i64 i] 23))) := hid ((Ext.refl w).alloc _)
 have hh : ∀ p : Prop,p ∨ ¬ p := fun p => Classical.em p
 rcases hh (0 ≤ s) with h1 | h1
 ·rcases hh (s ≤ 7) with h2 | h2
  ·rcases hh (1 ≤ q) with h3 | h3
   ·rcases hh (q ≤ 16) with h4 | h4
    ·rcases hh (0 ≤ i) with h5 | h5
     ·rcases hh (i ≤ 31) with h6 | h6
      all_goals (go_wp2_with fail;go_ret;exact ⟨fin _ (by simp;omega),E1.out⟩)
     ·(go_wp2_with fail;go_ret;exact ⟨fin _ (by simp;omega),E1.out⟩)
    ·(go_wp2_with fail;go_ret;exact ⟨fin _ (by simp;omega),E1.out⟩)
   ·(go_wp2_with fail;go_ret;exact ⟨fin _ (by simp;omega),E1.out⟩)
  ·(go_wp2_with fail;go_ret;exact ⟨fin _ (by simp;omega),E1.out⟩)
 ·(go_wp2_with fail;go_ret;exact ⟨fin _ (by simp;omega),E1.out⟩)
theorem sg_undrew {w w' : World} (h : Ext w.drew w') : Ext w w' := (Ext.refl w).drew.next h
def aroI (n m : Int) : Int := (if n < 0 then -(n + 1) else n) % m
theorem aroI_bd (n m : Int) (hm : 0 < m) : 0 ≤ aroI n m ∧ aroI n m < m := by
 unfold aroI
 exact ⟨Int.emod_nonneg _ (by omega),Int.emod_lt_of_pos _ hm⟩
theorem around_any (n m : Int) (w : World) (h0 : -9223372036854775808 ≤ n) (h1 : n ≤ 9223372036854775807) (hm : 0 < m) (hm2 : m ≤ 9223372036854775807) : Calls Tryz.prog 8 #[.int .i64 n,.int .i64 m] w fun e w' => e = .returned (.int .i64 (aroI n m)) ∧ w = w' := by
 have hR := aroI_bd n m hm
 by_cases h : n < 0
 ·have HA : Hid (-((n + 1).tmod m) = aroI n m) := hid (by unfold aroI;rw [if_pos h,← Int.neg_tmod,Int.tmod_eq_emod_of_nonneg (by omega)])
  have hmz : ¬ m = 0 := by omega
  go_enter Tryz.func8,Tryz.ntmps8
  go_wp2_with fail
  go_ret
  exact ⟨by rw [← HA.out];rfl,rfl⟩
 ·have HA : Hid (n % m = aroI n m) := hid (by unfold aroI;rw [if_neg h])
  have hmz : ¬ m = 0 := by omega
  go_enter Tryz.func8,Tryz.ntmps8
  go_wp2_with fail
  go_ret
  exact ⟨by rw [← HA.out];rfl,rfl⟩
end Go.Proofs.YtojcmcccahjphaaGreatDoor
/- Insert: a sorted list of IDs with one more. Conditions: at most 1000 of them. -/
namespace Go.Proofs.YtojcmcccahjphaaGreatDoor
open Go.RowKit
open Lib (hid)
attribute [local go_sem ↓] wp_at_zero wp_at_succ
theorem wpList_midw {P : Program} {ops : Array Oper} {rest : List Oper} {o : Oper} {a : Act} {w : World} {Q : Exit → Act → World → Prop} (hw : Region.wanted o (yielded ops a.tmps) = true) (ty : TypeId) (x : Operand) (ho : o.op = Op.load ty x)
  (b p : Nat) (hx : a.eval x = .pointer (some ⟨b,p,none⟩)) (cs : List Value) {d : TypeDesc} (hc : w.rangeAt b p cs) (hu : P.underlying ty = some d) (hd : d.isRow = true) (hi : (P.info? ty).map (·.size) = some cs.length)
  (h : wpList P ops Q rest (a.put o.dst (.agg cs.toArray)) w) : wpList P ops Q (o :: rest) a w :=
 BigFrame.wpList_want hw fun _ hK => wp_load_mid ty x ho b p hx cs d hc hu hd hi (hK _ _ h)
def idsC (L : List Rid) : List Value := L.flatMap idC
theorem idsC_len (L : List Rid) : (idsC L).length = L.length * 3 := by
 induction L with
 | nil => rfl
 | cons x L ih => simp only [idsC,List.flatMap_cons,List.length_append] at ih ⊢;rw [ih];simp [idC];omega
theorem idsC_one (L : List Rid) : ∀ v ∈ idsC L,v.oneCell' = true := fun v hv => by
 obtain ⟨x,_,hx⟩ := List.mem_flatMap.1 hv
 exact idC_one x v hx
theorem idsC_at : ∀ (L : List Rid) (k : Nat) (x : Rid),L[k]? = some x → ∀ j,j < 3 → (idsC L)[k * 3 + j]? = (idC x)[j]?
 | [],k,x,h,_,_ => by simp at h
 | y :: L,0,x,h,j,hj => by
  simp only [List.getElem?_cons_zero,Option.some.injEq] at h
  subst h
  unfold idsC
  rw [List.flatMap_cons,Nat.zero_mul,Nat.zero_add,List.getElem?_append_left (by simpa [idC] using hj)]
 | y :: L,k + 1,x,h,j,hj => by
  have ih := idsC_at L k x (by simpa using h) j hj
  unfold idsC at ih ⊢
  rw [List.flatMap_cons,List.getElem?_append_right (by simp [idC];omega),show (k + 1) * 3 + j - (idC y).length = k * 3 + j by simp [idC];omega]
  exact ih
theorem idsC_take (L : List Rid) (k : Nat) : idsC (L.take k) = (idsC L).take (k * 3) := by
 induction L generalizing k with
 | nil => simp [idsC]
 | cons x L ih =>
  cases k with
  | zero => simp [idsC]
  | succ k =>
   have := ih k
   have e : (idC x).take ((k + 1) * 3) = idC x := List.take_of_length_le (by simp only [idC,List.length_cons,List.length_nil];omega)
   unfold idsC at this ⊢
   rw [List.take_succ_cons,List.flatMap_cons,List.flatMap_cons,this,List.take_append,show (k + 1) * 3 - (idC x).length = k * 3 by simp [idC];omega,e]
theorem ids_range {w : World} {b p : Nat} {L : List Rid} (hc : ∀ j u,(idsC L)[j]? = some u → w.cell? ⟨b,p + j,none⟩ = some u) {k : Nat} {x : Rid} (hx : L[k]? = some x) : w.rangeAt b (p + k * 3) (idC x) := fun j u hu => by
 have hj : j < 3 := (List.getElem?_eq_some_iff.1 hu).1
 have h := hc (k * 3 + j) u (by rw [idsC_at L k x hx j hj];exact hu)
 rw [Nat.add_assoc]
 exact h
theorem rdn_own {w : World} {base : Nat} {e : TypeId} {size n c : Nat} {A : Option Addr} {xs : List Value} (h : w.ownsRow base e size (.slice A n c) n xs) : RdN w w.heap.size size A n xs := by
 refine ⟨by simpa using h.1,fun hn => ?_⟩
 rcases h.2 with ⟨hv,h0⟩ | ⟨g,cap,cur,hv,hg,hh,_⟩
 ·omega
 ·have hA : A = some ⟨g,0,none⟩ := by injection hv
  subst hA
  refine ⟨g,0,rfl,?_,fun j u hu => ?_⟩
  ·exact (h.lt g (by simp [Value.ownBlock])).2
  ·have := h.cells (g := g) (by simp [Value.ownBlock]) j u hu
   rw [Nat.zero_add]
   have e : (⟨g,0,none⟩ : Addr).add j = ⟨g,j,none⟩ := by unfold Addr.add;split <;> simp_all
   rwa [e] at this
theorem slice_cap {w : World} {base : Nat} {e : TypeId} {size n c : Nat} {A : Option Addr} {xs : List Value} (h : w.ownsRow base e size (.slice A n c) n xs) : n ≤ c ∧ c ≤ maxLen := by
 rcases h.2 with ⟨hv,h0⟩ | ⟨g,cap,cur,hv,hg,hh,h1,h2,_⟩
 ·injection hv with _ h1 h2;subst h1 h2;exact ⟨Nat.le_refl _,by decide⟩
 ·injection hv with _ _ h3;subst h3;exact ⟨h1,h2⟩
theorem own_far {w : World} {base : Nat} {e : TypeId} {size n c : Nat} {A : Option Addr} {xs : List Value} (h : w.ownsRow base e size (.slice A n c) n xs) {a : Addr} (ha : A = some a) : base ≤ a.block := by
 rcases h.2 with ⟨hv,h0⟩ | ⟨g,cap,cur,hv,hg,_⟩
 ·injection hv with hv
  rw [ha] at hv
  cases hv
 ·injection hv with hv
  rw [ha] at hv
  injection hv with hv
  rw [hv]
  exact hg
theorem id_info : (Tryz.prog.info? 23).map (fun i => (i.zero,i.size,i.bytes)) = some (some (.agg #[.int .i64 0,.int .i64 0,.int .i64 0]),3,24) := by kernel_rfl
theorem id_equal (a b : Rid) (w : World) : (Op.equalIn 10000 23 (.agg #[.int .i64 a.s,.int .i64 a.q,.int .i64 a.i]) (.agg #[.int .i64 b.s,.int .i64 b.q,.int .i64 b.i])).run Tryz.prog w = .ok (decide (a = b)) w := by
 have u3 := Tryz.underlying3
 have a3 := Tryz.isAgg3
 have z3 := Tryz.sizeOf3
 have hS : Tryz.prog.underlying 23 = some (.struct (Tryz.prog.fieldsOf 23)) := by kernel_rfl
 have hp : Tryz.prog.stoodInHeld 23 = false := by kernel_rfl
 rw [show (10000 : Nat) = 9999 + 1 from rfl,run_equalIn_agg w 9999 23 _ _ hS hp]
 simp only [Program.fieldsOf,Tryz.underlying23]
 go_simp
 obtain ⟨s,q,i⟩ := a
 obtain ⟨s',q',i'⟩ := b
 by_cases h1 : s = s' <;> by_cases h2 : q = q' <;> by_cases h3 : i = i' <;> simp [h1,h2,h3]
end Go.Proofs.YtojcmcccahjphaaGreatDoor
