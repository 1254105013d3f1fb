/- slices.SortFunc at at most 12 reviews. Conditions: the row is a block of its own. -/
import Derived.Test.YtjeecfjeooehhaaGreatDoorM18
import Derived.Maps.OwnSet
import Derived.DeepKeys4
set_option linter.unusedSimpArgs false
set_option linter.unusedVariables false
set_option maxHeartbeats 16000000
set_option maxRecDepth 100000
namespace Go.Proofs.YtjeecfjeooehhaaGreatDoor
open Go.RowKit
open Lib (hid)
theorem len64_any (x : Int) (w : World) (h0 : 0 ≤ x) (h1 : x < 256) :
  Calls Tryz.prog 159 #[.int .u64 x] w fun e w' => (∃ k,e = .returned (.int .i64 k)) ∧ w = w' := by
 go_enter Tryz.func159,Tryz.ntmps159
 go_wp2_with fail
 go_ret
 exact ⟨⟨_,rfl⟩,rfl⟩
theorem len_any (x : Int) (w : World) (h0 : 0 ≤ x) (h1 : x < 256) :
  Calls Tryz.prog 126 #[.int .u64 x] w fun e w' => (∃ k,e = .returned (.int .i64 k)) ∧ w = w' := by
 go_enter Tryz.func126,Tryz.ntmps126
 go_wp2_with (go_at_call 159;(with_reducible refine (len64_any x _ h0 h1).mono ?_);rintro e w2 ⟨⟨k,rfl⟩,rfl⟩)
 go_ret
 exact ⟨⟨_,rfl⟩,rfl⟩
theorem pdq_any (L0 : List RX) (tl : List Value) (g n c : Nat) (lim : Int) (w : World) (hB : Blk w g 28 (rxsC L0 ++ tl)) (hL : ∀ x ∈ L0,(rxC x).length = 22) (hn : L0.length = n) (hn9 : n ≤ 12) :
  Calls Tryz.prog 125 #[.slice (some ⟨g,0,none⟩) n c,.int .i64 0,.int .i64 (n : Int),.int .i64 lim,.func (.func 88) #[] #[]] w fun e w' => e = .returned (.tuple #[]) ∧ ∃ L',L'.Perm L0 ∧ SortK L' ∧ Blk w' g 28 (rxsC L' ++ tl) ∧ Kept (fun b => b = g) w w' := by
 have HI := hid (isort_any L0 tl g n c w hB hL hn (by omega))
 clear hB hL hn
 have h12 : decide ((n : Int) ≤ 12) = true := decide_eq_true (by omega)
 go_enter Tryz.func125,Tryz.ntmps125
 go_wp2_with fail
 go_loopw [1,2] (fun a b wr => a = .int .i64 0 ∧ b = .int .i64 (n : Int) ∧ wr = w) (fun _ _ _ => 0)
 case atStart => exact ⟨rfl,rfl,rfl⟩
 case round =>
  obtain ⟨rfl,rfl,rfl⟩ := hrel
  go_wp2_with (go_at_call 150;(with_reducible refine HI.out.mono ?_);rintro e w2 ⟨rfl,hx⟩)
  refine bodyPost_ret (results_none rfl _ _ _) rfl ?_
  exact ⟨rfl,hx⟩
theorem sortR_any (L0 : List RX) (tl : List Value) (g n c : Nat) (w : World) (hB : Blk w g 28 (rxsC L0 ++ tl)) (hL : ∀ x ∈ L0,(rxC x).length = 22) (hn : L0.length = n) (hn9 : n ≤ 12) :
  Calls Tryz.prog 87 #[.slice (some ⟨g,0,none⟩) n c,.func (.func 88) #[] #[]] w fun e w' => e = .returned (.tuple #[]) ∧ ∃ L',L'.Perm L0 ∧ SortK L' ∧ Blk w' g 28 (rxsC L' ++ tl) ∧ Kept (fun b => b = g) w w' := by
 have HP := hid (fun lim => pdq_any L0 tl g n c lim w hB hL hn hn9)
 have HLN := hid (len_any (n : Int) w (by omega) (by omega))
 clear hB hL hn
 have hw : IntKind.u64.wrap (n : Int) = n := by simp [IntKind.wrap,IntKind.bits,IntKind.signed];omega
 go_enter Tryz.func87,Tryz.ntmps87
 go_wp2_with (first
  | (go_at_call 126;(with_reducible refine HLN.out.mono ?_);rintro e w2 ⟨⟨k,rfl⟩,rfl⟩)
  | (go_at_call 125;(with_reducible refine (HP.out _).mono ?_);rintro e w2 ⟨rfl,hx⟩))
 go_end0
 exact ⟨rfl,hx⟩
end Go.Proofs.YtjeecfjeooehhaaGreatDoor
/- Standing's map of the numbers met, and SortFunc at no review. Conditions: numbers of 64 bits. -/
namespace Go.Proofs.YtjeecfjeooehhaaGreatDoor
open Go.RowKit
open Lib (hid)
def refV (s q : Int) : Value := .agg #[.int .i64 s,.int .i64 q]
def refK (s q : Int) : Lit := .string (keyBytes [.int .i64 s,.int .i64 q])
theorem keyRef : Maps.Keyed Tryz.prog 130 := Maps.Keyed.of_law (deep_law (m := 2) (by decide) (by kernel_rfl) (by kernel_rfl) (by kernel_rfl))
theorem i64_wf {x : Int} (h : i64 x) : (Lit.int .i64 x).wf = true := by
 unfold i64 at h
 simp [Lit.wf,IntKind.min,IntKind.max,IntKind.bits,IntKind.signed]
 omega
theorem keyOf_ref {s q : Int} (hs : i64 s) (hq : i64 q) : keyOf Tryz.prog 130 (refV s q) = some (refK s q) := by
 obtain ⟨n,hn⟩ : ∃ n,Tryz.prog.types.size = n + 1 := ⟨Tryz.prog.types.size - 1,by have : 0 < Tryz.prog.types.size := of_decide_eq_true (by kernel_rfl);omega⟩
 have hf : (refV s q).formed Tryz.prog 130 = true := by unfold refV;kernel_rfl
 have hk : Tryz.prog.keyType 130 = true := by kernel_rfl
 have hc : Tryz.prog.cellsOf 130 = 2 := by kernel_rfl
 have hce : Tryz.prog.cellsOf 3 = 1 := by kernel_rfl
 unfold keyOf
 simp only [Tryz.underlying130,hk,hf,Bool.and_self,if_true]
 unfold refV refK
 rw [hn]
 simp only [Program.keyLits,Tryz.underlying130,Tryz.underlying3,Value.cells,hc,hce,List.length_cons,List.length_nil]
 simp [Program.keyLits,Tryz.underlying3,hce,i64_wf hs,i64_wf hq]
theorem refK_inj {s q s' q' : Int} (hs : i64 s) (hq : i64 q) (hs' : i64 s') (hq' : i64 q') (h : refK s q = refK s' q') : s = s' ∧ q = q' := by
 have h1 := keyOf_ref hs hq
 rw [h] at h1
 have h2 := keyRef.inj h1 (keyOf_ref hs' hq')
 unfold refV at h2
 simpa using h2
def heldV (v : Value) : Option (DataW Value × List MemPlace) := some (.held v,[])
def Met (w : World) (K : List (Int × Int)) (hm n : Nat) : Prop :=
 ∃ L : List (Lit × DataW Value),w.ownsMap Tryz.prog 130 heldV hm n (.map L) ∧ (∀ p ∈ L,∃ s q,i64 s ∧ i64 q ∧ (s,q) ∈ K ∧ p = (refK s q,.held (.bool true))) ∧ ∀ s q,(s,q) ∈ K → i64 s ∧ i64 q ∧ ∃ p ∈ L,p.1 = refK s q
theorem Met.kept {w w' : World} {K : List (Int × Int)} {hm n : Nat} {F : Nat → Prop} (hh : Met w K hm n) (hk : Kept F w w') (hf : ¬ F hm) : Met w' K hm n := by
 obtain ⟨L,⟨es,clock,hb,r⟩,h2⟩ := hh
 exact ⟨L,⟨es,clock,(hk.block hm (Array.getElem?_eq_some_iff.1 hb).1 hf).trans hb,r⟩,h2⟩
theorem Met.ext {w w' : World} {K : List (Int × Int)} {hm n : Nat} (hh : Met w K hm n) (hE : Ext w w') : Met w' K hm n := hh.kept (Kept.of_ext (F := fun _ => False) hE) (fun h => h)
theorem Met.lt {w : World} {K : List (Int × Int)} {hm n : Nat} (h : Met w K hm n) : hm < w.heap.size := by
 obtain ⟨L,h1,_⟩ := h
 exact h1.lt
theorem Met.made (w : World) : Met (w.alloc (.map #[] 0)) [] w.heap.size 0 := ⟨[],World.ownsMap_made w _ _ _,(fun p hp => by cases hp),(fun s q h => by cases h)⟩
theorem Met.look {w : World} {K : List (Int × Int)} {hm n : Nat} (hh : Met w K hm n) {s q : Int} (hs : i64 s) (hq : i64 q) :
  (Instr.lookup 134 (.map (some hm)) (refV s q) false).run Tryz.prog w = .ok (.bool (decide ((s,q) ∈ K))) w := by
 obtain ⟨L,h1,h3,h4⟩ := hh
 have hz : (zeroValue 4).run Tryz.prog w = .ok (.bool false) w := by kernel_rfl
 obtain ⟨v,ps,hrun,hv⟩ := h1.lookup keyRef Tryz.underlying134 hz (zd := .held (.bool false)) (zp := []) rfl (keyOf_ref hs hq)
 simp only [heldV,Option.some.injEq,Prod.mk.injEq] at hv
 have hv1 := hv.1
 suffices hvv : v = .bool (decide ((s,q) ∈ K)) by rw [hrun,hvv]
 by_cases hK : (s,q) ∈ K
 ·rw [decide_eq_true hK]
  obtain ⟨_,_,p,hp,hpk⟩ := h4 s q hK
  cases hf : L.find? (fun p => p.1.sameKey (refK s q)) with
  | none =>
   have := List.find?_eq_none.1 hf p hp
   rw [hpk] at this
   exact absurd (show (refK s q).sameKey (refK s q) = true from beq_self_eq_true _) this
  | some p' =>
   obtain ⟨s',q',_,_,_,e⟩ := h3 p' (List.mem_of_find?_eq_some hf)
   have hv2 : (DataW.held v : DataW Value) = p'.2 := by
    rw [hv1]
    simp [DataW.atKey,hf]
   rw [e] at hv2
   injection hv2
 ·rw [decide_eq_false hK]
  have hno : Maps.has (.map L : DataW Value) (refK s q) = false := by
   rw [Maps.has_eq,Bool.eq_false_iff]
   intro h
   obtain ⟨p,hp,hsk⟩ := List.any_eq_true.1 h
   obtain ⟨s',q',hs',hq',hK',e⟩ := h3 p hp
   have e1 : p.1 = refK s q := WideAt.sameKey_eq hsk
   rw [e] at e1
   obtain ⟨rfl,rfl⟩ := refK_inj hs' hq' hs hq e1
   exact hK hK'
  rw [Maps.atKey_of_not_has hno] at hv1
  injection hv1
section
variable {ops : Array Oper} {rest : List Oper} {o : Oper} {a : Act} {w : World} {Q : Exit → Act → World → Prop}
theorem wpList_met_put (hg : o.guard = none) (m x y : Operand) (hop : o.op = Op.mapUpdate 134 m x y) {hm n : Nat} {K : List (Int × Int)} (hmv : a.eval m = .map (some hm)) (hh : Met w K hm n) (hn : n < maxLen) (s q : Int) (hx : a.eval x = refV s q) (hy : a.eval y = .bool true) (hs : i64 s) (hq : i64 q)
  (hK : ∀ w',Met w' ((s,q) :: K) hm (n + 1) → Kept (fun b => b = hm) w w' → wpList Tryz.prog ops Q rest (a.put o.dst undef) w') : wpList Tryz.prog ops Q (o :: rest) a w := by
 obtain ⟨L,h1,h2,h3⟩ := hh
 refine wpList_mapUpdate_own w hg m x y 134 hop 130 4 keyRef Tryz.underlying134 heldV hm n (.map L) hmv h1 hn (refV s q) _ (refK s q) hx hy (keyOf_ref hs hq) (.held (.bool true)) [] rfl ?_
 intro w' h4 hgr
 have e : (DataW.map L : DataW Value).put (refK s q) (.held (.bool true)) = .map (DataW.insert (refK s q,(.held (.bool true) : DataW Value)) (L.filter fun p => !p.1.sameKey (refK s q))) := rfl
 rw [e] at h4
 refine hK w' ⟨_,h4,fun p hp => ?_,fun s' q' hK' => ?_⟩ (Kept.of_grown hgr (fun b hb _ => by injection hb with hb;exact hb.symm))
 ·rcases ChangeMaps.mem_insert_iff.1 hp with rfl | hp
  ·exact ⟨s,q,hs,hq,List.mem_cons_self ..,rfl⟩
  ·obtain ⟨s',q',a1,a2,a3,a4⟩ := h2 p (List.mem_filter.1 hp).1
   exact ⟨s',q',a1,a2,List.mem_cons_of_mem _ a3,a4⟩
 ·by_cases hsame : (s',q') = (s,q)
  ·injection hsame with e1 e2
   subst e1 e2
   exact ⟨hs,hq,_,ChangeMaps.mem_insert_iff.2 (Or.inl rfl),rfl⟩
  ·rcases List.mem_cons.1 hK' with h | h
   ·exact absurd h hsame
   ·obtain ⟨b1,b2,p,hp,hpk⟩ := h3 s' q' h
    refine ⟨b1,b2,p,ChangeMaps.mem_insert_iff.2 (Or.inr (List.mem_filter.2 ⟨hp,?_⟩)),hpk⟩
    cases hsk : p.1.sameKey (refK s q) with
    | false => rfl
    | true =>
     exfalso
     have e1 := WideAt.sameKey_eq hsk
     rw [hpk] at e1
     obtain ⟨rfl,rfl⟩ := refK_inj b1 b2 hs hq e1
     exact hsame rfl
end
theorem isort0_any (A : Option Addr) (c : Nat) (w : World) :
  Calls Tryz.prog 150 #[.slice A 0 c,.int .i64 0,.int .i64 0,.func (.func 88) #[] #[]] w fun e w' => e = .returned (.tuple #[]) ∧ w = w' := by
 go_enter Tryz.func150,Tryz.ntmps150
 go_wp2_with fail
 go_loopw [8] (fun s8 wr => s8 = .int .i64 1 ∧ wr = w) (fun _ _ => 0)
 case atStart => exact ⟨rfl,rfl⟩
 case round =>
  obtain ⟨rfl,rfl⟩ := hrel
  go_wp2_with fail
  go_end0
  exact ⟨rfl,rfl⟩
theorem pdq0_any (A : Option Addr) (c : Nat) (lim : Int) (w : World) :
  Calls Tryz.prog 125 #[.slice A 0 c,.int .i64 0,.int .i64 0,.int .i64 lim,.func (.func 88) #[] #[]] w fun e w' => e = .returned (.tuple #[]) ∧ w = w' := by
 go_enter Tryz.func125,Tryz.ntmps125
 go_wp2_with fail
 go_loopw [1,2] (fun a b wr => a = .int .i64 0 ∧ b = .int .i64 0 ∧ wr = w) (fun _ _ _ => 0)
 case atStart => exact ⟨rfl,rfl,rfl⟩
 case round =>
  obtain ⟨rfl,rfl,rfl⟩ := hrel
  go_wp2_with (go_at_call 150;(with_reducible refine (isort0_any A c _).mono ?_);rintro e w2 ⟨rfl,rfl⟩)
  refine bodyPost_ret (results_none rfl _ _ _) rfl ?_
  exact ⟨rfl,rfl⟩
theorem sort0_any (A : Option Addr) (c : Nat) (w : World) :
  Calls Tryz.prog 87 #[.slice A 0 c,.func (.func 88) #[] #[]] w fun e w' => e = .returned (.tuple #[]) ∧ w = w' := by
 have HLN := hid (len_any 0 w (by omega) (by omega))
 go_enter Tryz.func87,Tryz.ntmps87
 go_wp2_with (first
  | (go_at_call 126;(with_reducible refine HLN.out.mono ?_);rintro e w2 ⟨⟨k,rfl⟩,rfl⟩)
  | (go_at_call 125;(with_reducible refine (pdq0_any A c _ w).mono ?_);rintro e w2 ⟨rfl,rfl⟩))
 go_end0
 exact ⟨rfl,rfl⟩
end Go.Proofs.YtjeecfjeooehhaaGreatDoor
