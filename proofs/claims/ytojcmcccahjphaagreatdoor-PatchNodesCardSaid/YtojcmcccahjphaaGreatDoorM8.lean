/- Package patch: the contents of nodes in memory; empty; the closures over kids, names and texts. Conditions: the slices can be read. -/
import Derived.Test.YtojcmcccahjphaaGreatDoorM6
import Derived.Test.YtojcmcccahjphaaGreatDoorM7
set_option linter.unusedSimpArgs false
set_option linter.unusedVariables false
set_option maxHeartbeats 16000000
set_option maxRecDepth 100000
set_option maxRecDepth 100000
set_option maxHeartbeats 16000000
namespace Go.Proofs.YtojcmcccahjphaaGreatDoor
open Go.RowKit
open Lib (hid)
attribute [local go_sem ↓] wp_at_zero wp_at_succ
structure NodA where
 k : Int
 n : Int
 ref : Rid
 ty : List TyN
 kids : List Rid
 names : List ByteArray
def nodC (x : NodA) (t : List Value) (s1 s2 : Value) : List Value := [.int .i64 x.k,.int .i64 x.n,.int .i64 x.ref.s,.int .i64 x.ref.q,.int .i64 x.ref.i] ++ t ++ [s1,s2]
structure NodS (w : World) (x : NodA) (t : List Value) (A : Option Addr) (n c : Nat) (B : Option Addr) (m d : Nat) : Prop where
 ty : TyV w x.ty t
 kids : RdN w w.heap.size 3 A n (idsC x.kids)
 kle : n ≤ c
 kcap : c ≤ 9223372036854775807
 kfew : n ≤ 1000000
 nms : Rd w w.heap.size B m (x.names.map Value.string)
 nle : m ≤ d
 ncap : d ≤ 9223372036854775807
 nfew : m ≤ 1000000
def NodV (w : World) (x : NodA) (cs : List Value) : Prop := ∃ t A n c B m d,cs = nodC x t (.slice A n c) (.slice B m d) ∧ NodS w x t A n c B m d
theorem NodS.ext {w w' : World} (hE : Ext w w') {x : NodA} {t : List Value} {A : Option Addr} {n c : Nat} {B : Option Addr} {m d : Nat} (h : NodS w x t A n c B m d) : NodS w' x t A n c B m d :=
 ⟨h.ty.ext hE,(h.kids.below hE (Nat.le_refl _)).more hE.size,h.kle,h.kcap,h.kfew,h.nms.ext' hE,h.nle,h.ncap,h.nfew⟩
theorem NodV.ext {w w' : World} (hE : Ext w w') {x : NodA} {cs : List Value} (h : NodV w x cs) : NodV w' x cs := by
 obtain ⟨t,A,n,c,B,m,d,h1,h2⟩ := h
 exact ⟨t,A,n,c,B,m,d,h1,h2.ext hE⟩
theorem NodV.len {w : World} {x : NodA} {cs : List Value} (h : NodV w x cs) : cs.length = 12 := by
 obtain ⟨t,A,n,c,B,m,d,h1,h2⟩ := h
 rw [h1]
 simp [nodC,h2.ty.len]
theorem NodV.one {w : World} {x : NodA} {cs : List Value} (h : NodV w x cs) : ∀ v ∈ cs,v.oneCell' = true := by
 obtain ⟨t,A,n,c,B,m,d,h1,h2⟩ := h
 intro v hv
 rw [h1] at hv
 unfold nodC at hv
 rcases List.mem_append.1 hv with hv | hv
 ·rcases List.mem_append.1 hv with hv | hv
  ·simp only [List.mem_cons,List.not_mem_nil,or_false] at hv
   rcases hv with rfl | rfl | rfl | rfl | rfl <;> rfl
  ·exact h2.ty.one v hv
 ·simp only [List.mem_cons,List.not_mem_nil,or_false] at hv
  rcases hv with rfl | rfl <;> rfl
theorem nod_cell {W : World} {g : Nat} {ty : TypeId} {a b c d e f h i j k l m : Value} (H : Blk W g ty [a,b,c,d,e,f,h,i,j,k,l,m]) : W.cell? ⟨g,0,none⟩ = some a ∧ W.cell? ⟨g,1,none⟩ = some b ∧ W.cell? ⟨g,2,none⟩ = some c ∧ W.cell? ⟨g,3,none⟩ = some d ∧ W.cell? ⟨g,4,none⟩ = some e ∧ W.cell? ⟨g,5,none⟩ = some f ∧ W.cell? ⟨g,6,none⟩ = some h ∧ W.cell? ⟨g,7,none⟩ = some i ∧ W.cell? ⟨g,8,none⟩ = some j ∧ W.cell? ⟨g,9,none⟩ = some k ∧ W.cell? ⟨g,10,none⟩ = some l ∧ W.cell? ⟨g,11,none⟩ = some m := ⟨H.cell 0,H.cell 1,H.cell 2,H.cell 3,H.cell 4,H.cell 5,H.cell 6,H.cell 7,H.cell 8,H.cell 9,H.cell 10,H.cell 11⟩
theorem nod_info : (Tryz.prog.info? 30).map (·.size) = some 12 := by kernel_rfl
theorem strs_n {w : World} {B n : Nat} {A : Option Addr} {L : List ByteArray} (h : Rd w B A n (L.map Value.string)) : L.length = n := by
 have := h.1
 simpa using this
theorem list5 (t : List Value) (h : t.length = 5) : ∃ a b c d e,t = [a,b,c,d,e] := by
 rcases t with _ | ⟨a,t⟩
 ·cases h
 rcases t with _ | ⟨b,t⟩
 ·cases h
 rcases t with _ | ⟨c,t⟩
 ·cases h
 rcases t with _ | ⟨d,t⟩
 ·cases h
 rcases t with _ | ⟨e,t⟩
 ·cases h
 rcases t with _ | ⟨f,t⟩
 ·exact ⟨a,b,c,d,e,rfl⟩
 ·simp at h
theorem range_mid {w : World} {g : Nat} {cs : List Value} (h : w.rangeAt g 0 cs) (k : Nat) (ds : List Value) (hd : ds = (cs.drop k).take ds.length) : w.rangeAt g k ds := fun j v hv => by
 have h1 := h (k + j) v (by
  rw [hd,List.getElem?_take] at hv
  split at hv
  ·rw [List.getElem?_drop] at hv;exact hv
  ·cases hv)
 rw [Nat.zero_add] at h1
 exact h1
def emptyB (x : NodA) : Bool := decide (x.k = 0) && decide (x.n = 0) && decide (x.ref = ⟨0,0,0⟩) && zeroB x.ty && decide (x.kids.length = 0) && decide (x.names.length = 0)
theorem empty_any (x : NodA) (cs : List Value) (w : World) (hx : NodV w x cs) : Calls Tryz.prog 27 #[.agg cs.toArray] w fun e w' => e = .returned (.bool (emptyB x)) ∧ Ext w w' := by
 obtain ⟨t,A,n,c,B,m,d,rfl,hS⟩ := hx
 obtain ⟨k,N,⟨s,q,i⟩,ty,kids,names⟩ := x
 have hkn := idsC_n hS.kids
 have hmn := strs_n hS.nms
 dsimp only at hkn hmn
 obtain ⟨zb,hzb⟩ : ∃ b,b = zeroB ty := ⟨_,rfl⟩
 have HZ : Hid (∀ W,Ext w W → Calls Tryz.prog 25 #[.agg t.toArray] W fun e w' => e = .returned (.bool zb) ∧ Ext W w') := hid (fun W hW => by rw [hzb];exact zero_any ty t W (hS.ty.ext hW))
 obtain ⟨db,hdb⟩ : ∃ b,b = decide ((⟨s,q,i⟩ : Rid) = ⟨0,0,0⟩) := ⟨_,rfl⟩
 have HQ : Hid (db = (false != decide ((⟨s,q,i⟩ : Rid) = ⟨0,0,0⟩))) := hid (by rw [hdb];simp)
 have HF : Hid (emptyB ⟨k,N,⟨s,q,i⟩,ty,kids,names⟩ = (decide (k = 0) && (decide (N = 0) && (db && (zb && (decide (n = 0) && decide (m = 0))))))) := hid (by
  unfold emptyB
  rw [hdb,hzb,hkn,hmn]
  simp only [Bool.and_assoc])
 have hL := hS.ty.len
 obtain ⟨t0,t1,t2,t3,t4,rfl⟩ : ∃ a b c d e,t = [a,b,c,d,e] := list5 t hL
 rw [HF.out]
 clear hS hkn hmn hzb hdb HF hL
 show Calls Tryz.prog 27 #[.agg #[.int .i64 k,.int .i64 N,.int .i64 s,.int .i64 q,.int .i64 i,t0,t1,t2,t3,t4,.slice A n c,.slice B m d]] w _
 obtain ⟨w1,hw1⟩ : ∃ x,x = w.alloc (.cells #[.int .i64 k,.int .i64 N,.int .i64 s,.int .i64 q,.int .i64 i,t0,t1,t2,t3,t4,.slice A n c,.slice B m d] 30) := ⟨_,rfl⟩
 have E1 : Hid (Ext w w1) := hid (by rw [hw1];exact (Ext.refl w).alloc _)
 have B1 : Hid (Blk w1 w.heap.size 30 [.int .i64 k,.int .i64 N,.int .i64 s,.int .i64 q,.int .i64 i,t0,t1,t2,t3,t4,.slice A n c,.slice B m d]) := hid (by rw [hw1];exact Blk.fresh' _ _ _ _ _ rfl rfl)
 have HR5 : Hid (w1.rangeAt w.heap.size 5 [t0,t1,t2,t3,t4]) := hid (range_mid B1.out.range 5 [t0,t1,t2,t3,t4] rfl)
 by_cases h0 : k = 0
 ·subst h0
  rw [decide_eq_true rfl,Bool.true_and]
  by_cases h1 : N = 0
  ·subst h1
   rw [decide_eq_true rfl,Bool.true_and]
   cases db
   ·rw [Bool.false_and]
    go_enter Tryz.func27,Tryz.ntmps27
    go_upto_region 1 with fail
    change Code.wp _ _ _ _ (w.alloc (.cells #[.int .i64 0,.int .i64 0,.int .i64 s,.int .i64 q,.int .i64 i,t0,t1,t2,t3,t4,.slice A n c,.slice B m d] 30))
    rw [← hw1]
    clear hw1
    obtain ⟨c0,c1,c2,c3,c4,c5,c6,c7,c8,c9,c10,c11⟩ := nod_cell B1.out
    go_wp2_with (first
     | ((with_reducible refine wpList_idEql s q i 0 0 0 _ HQ.out ?_ ?_ ?_ ?_);kernel_rfl;rfl;rfl)
     | ((with_reducible refine wpList_load_row 26 w.heap.size 5 [t0,t1,t2,t3,t4] HR5.out Tryz.underlying26 rfl (ty_info.trans rfl) ?_ ?_ ?_);kernel_rfl;rfl)
     | (go_at_call 25;(with_reducible refine (HZ.out w1 E1.out).mono ?_);rintro e w3 ⟨rfl,hE3⟩;have E1 : Hid (Ext w w3) := hid (E1.out.next hE3);have BE3 := hid (B1.out.ext hE3);obtain ⟨d0,d1,d2,d3,d4,d5,d6,d7,d8,d9,d10,d11⟩ := nod_cell BE3.out;clear hE3))
    go_ret
    exact ⟨rfl,E1.out⟩
   ·rw [Bool.true_and]
    cases zb
    ·rw [Bool.false_and]
     go_enter Tryz.func27,Tryz.ntmps27
     go_upto_region 1 with fail
     change Code.wp _ _ _ _ (w.alloc (.cells #[.int .i64 0,.int .i64 0,.int .i64 s,.int .i64 q,.int .i64 i,t0,t1,t2,t3,t4,.slice A n c,.slice B m d] 30))
     rw [← hw1]
     clear hw1
     obtain ⟨c0,c1,c2,c3,c4,c5,c6,c7,c8,c9,c10,c11⟩ := nod_cell B1.out
     go_wp2_with (first
      | ((with_reducible refine wpList_idEql s q i 0 0 0 _ HQ.out ?_ ?_ ?_ ?_);kernel_rfl;rfl;rfl)
      | ((with_reducible refine wpList_load_row 26 w.heap.size 5 [t0,t1,t2,t3,t4] HR5.out Tryz.underlying26 rfl (ty_info.trans rfl) ?_ ?_ ?_);kernel_rfl;rfl)
      | (go_at_call 25;(with_reducible refine (HZ.out w1 E1.out).mono ?_);rintro e w3 ⟨rfl,hE3⟩;have E1 : Hid (Ext w w3) := hid (E1.out.next hE3);have BE3 := hid (B1.out.ext hE3);obtain ⟨d0,d1,d2,d3,d4,d5,d6,d7,d8,d9,d10,d11⟩ := nod_cell BE3.out;clear hE3))
     go_ret
     exact ⟨rfl,E1.out⟩
    ·rw [Bool.true_and]
     by_cases h2 : n = 0
     ·subst h2
      rw [decide_eq_true rfl,Bool.true_and]
      by_cases h3 : m = 0
      ·subst h3
       rw [decide_eq_true rfl]
       go_enter Tryz.func27,Tryz.ntmps27
       go_upto_region 1 with fail
       change Code.wp _ _ _ _ (w.alloc (.cells #[.int .i64 0,.int .i64 0,.int .i64 s,.int .i64 q,.int .i64 i,t0,t1,t2,t3,t4,.slice A 0 c,.slice B 0 d] 30))
       rw [← hw1]
       clear hw1
       obtain ⟨c0,c1,c2,c3,c4,c5,c6,c7,c8,c9,c10,c11⟩ := nod_cell B1.out
       go_wp2_with (first
        | ((with_reducible refine wpList_idEql s q i 0 0 0 _ HQ.out ?_ ?_ ?_ ?_);kernel_rfl;rfl;rfl)
        | ((with_reducible refine wpList_load_row 26 w.heap.size 5 [t0,t1,t2,t3,t4] HR5.out Tryz.underlying26 rfl (ty_info.trans rfl) ?_ ?_ ?_);kernel_rfl;rfl)
        | (go_at_call 25;(with_reducible refine (HZ.out w1 E1.out).mono ?_);rintro e w3 ⟨rfl,hE3⟩;have E1 : Hid (Ext w w3) := hid (E1.out.next hE3);have BE3 := hid (B1.out.ext hE3);obtain ⟨d0,d1,d2,d3,d4,d5,d6,d7,d8,d9,d10,d11⟩ := nod_cell BE3.out;clear hE3))
       go_ret
       exact ⟨rfl,E1.out⟩
      ·have h3b : (((m : Nat) : Int) == 0) = false := by rw [beq_eq_false_iff_ne];omega
       rw [decide_eq_false h3]
       clear h3
       go_enter Tryz.func27,Tryz.ntmps27
       go_upto_region 1 with fail
       change Code.wp _ _ _ _ (w.alloc (.cells #[.int .i64 0,.int .i64 0,.int .i64 s,.int .i64 q,.int .i64 i,t0,t1,t2,t3,t4,.slice A 0 c,.slice B m d] 30))
       rw [← hw1]
       clear hw1
       obtain ⟨c0,c1,c2,c3,c4,c5,c6,c7,c8,c9,c10,c11⟩ := nod_cell B1.out
       go_wp2_with (first
        | ((with_reducible refine wpList_idEql s q i 0 0 0 _ HQ.out ?_ ?_ ?_ ?_);kernel_rfl;rfl;rfl)
        | ((with_reducible refine wpList_load_row 26 w.heap.size 5 [t0,t1,t2,t3,t4] HR5.out Tryz.underlying26 rfl (ty_info.trans rfl) ?_ ?_ ?_);kernel_rfl;rfl)
        | (go_at_call 25;(with_reducible refine (HZ.out w1 E1.out).mono ?_);rintro e w3 ⟨rfl,hE3⟩;have E1 : Hid (Ext w w3) := hid (E1.out.next hE3);have BE3 := hid (B1.out.ext hE3);obtain ⟨d0,d1,d2,d3,d4,d5,d6,d7,d8,d9,d10,d11⟩ := nod_cell BE3.out;clear hE3))
       go_ret
       exact ⟨rfl,E1.out⟩
     ·have h2b : (((n : Nat) : Int) == 0) = false := by rw [beq_eq_false_iff_ne];omega
      rw [decide_eq_false h2,Bool.false_and]
      clear h2
      go_enter Tryz.func27,Tryz.ntmps27
      go_upto_region 1 with fail
      change Code.wp _ _ _ _ (w.alloc (.cells #[.int .i64 0,.int .i64 0,.int .i64 s,.int .i64 q,.int .i64 i,t0,t1,t2,t3,t4,.slice A n c,.slice B m d] 30))
      rw [← hw1]
      clear hw1
      obtain ⟨c0,c1,c2,c3,c4,c5,c6,c7,c8,c9,c10,c11⟩ := nod_cell B1.out
      go_wp2_with (first
       | ((with_reducible refine wpList_idEql s q i 0 0 0 _ HQ.out ?_ ?_ ?_ ?_);kernel_rfl;rfl;rfl)
       | ((with_reducible refine wpList_load_row 26 w.heap.size 5 [t0,t1,t2,t3,t4] HR5.out Tryz.underlying26 rfl (ty_info.trans rfl) ?_ ?_ ?_);kernel_rfl;rfl)
       | (go_at_call 25;(with_reducible refine (HZ.out w1 E1.out).mono ?_);rintro e w3 ⟨rfl,hE3⟩;have E1 : Hid (Ext w w3) := hid (E1.out.next hE3);have BE3 := hid (B1.out.ext hE3);obtain ⟨d0,d1,d2,d3,d4,d5,d6,d7,d8,d9,d10,d11⟩ := nod_cell BE3.out;clear hE3))
      go_ret
      exact ⟨rfl,E1.out⟩
  ·have h1b : (N == (0 : Int)) = false := beq_eq_false_iff_ne.2 h1
   rw [decide_eq_false h1,Bool.false_and]
   clear h1
   go_enter Tryz.func27,Tryz.ntmps27
   go_upto_region 1 with fail
   change Code.wp _ _ _ _ (w.alloc (.cells #[.int .i64 0,.int .i64 N,.int .i64 s,.int .i64 q,.int .i64 i,t0,t1,t2,t3,t4,.slice A n c,.slice B m d] 30))
   rw [← hw1]
   clear hw1
   obtain ⟨c0,c1,c2,c3,c4,c5,c6,c7,c8,c9,c10,c11⟩ := nod_cell B1.out
   go_wp2_with (first
    | ((with_reducible refine wpList_idEql s q i 0 0 0 _ HQ.out ?_ ?_ ?_ ?_);kernel_rfl;rfl;rfl)
    | ((with_reducible refine wpList_load_row 26 w.heap.size 5 [t0,t1,t2,t3,t4] HR5.out Tryz.underlying26 rfl (ty_info.trans rfl) ?_ ?_ ?_);kernel_rfl;rfl)
    | (go_at_call 25;(with_reducible refine (HZ.out w1 E1.out).mono ?_);rintro e w3 ⟨rfl,hE3⟩;have E1 : Hid (Ext w w3) := hid (E1.out.next hE3);have BE3 := hid (B1.out.ext hE3);obtain ⟨d0,d1,d2,d3,d4,d5,d6,d7,d8,d9,d10,d11⟩ := nod_cell BE3.out;clear hE3))
   go_ret
   exact ⟨rfl,E1.out⟩
 ·have h0b : (k == (0 : Int)) = false := beq_eq_false_iff_ne.2 h0
  rw [decide_eq_false h0,Bool.false_and]
  clear h0
  go_enter Tryz.func27,Tryz.ntmps27
  go_upto_region 1 with fail
  change Code.wp _ _ _ _ (w.alloc (.cells #[.int .i64 k,.int .i64 N,.int .i64 s,.int .i64 q,.int .i64 i,t0,t1,t2,t3,t4,.slice A n c,.slice B m d] 30))
  rw [← hw1]
  clear hw1
  obtain ⟨c0,c1,c2,c3,c4,c5,c6,c7,c8,c9,c10,c11⟩ := nod_cell B1.out
  go_wp2_with (first
   | ((with_reducible refine wpList_idEql s q i 0 0 0 _ HQ.out ?_ ?_ ?_ ?_);kernel_rfl;rfl;rfl)
   | ((with_reducible refine wpList_load_row 26 w.heap.size 5 [t0,t1,t2,t3,t4] HR5.out Tryz.underlying26 rfl (ty_info.trans rfl) ?_ ?_ ?_);kernel_rfl;rfl)
   | (go_at_call 25;(with_reducible refine (HZ.out w1 E1.out).mono ?_);rintro e w3 ⟨rfl,hE3⟩;have E1 : Hid (Ext w w3) := hid (E1.out.next hE3);have BE3 := hid (B1.out.ext hE3);obtain ⟨d0,d1,d2,d3,d4,d5,d6,d7,d8,d9,d10,d11⟩ := nod_cell BE3.out;clear hE3))
  go_ret
  exact ⟨rfl,E1.out⟩
theorem indexF_nk {n : Nat} (A : Option Addr) (c : Nat) (p : Nat → Bool) (w : World) (b o : Nat) (hA : 0 < n → A = some ⟨b,o,none⟩) (encs : Nat → List Value) (hR : ∀ j,j < n → ∀ W,Ext w W → W.rangeAt b (o + j * 3) (encs j)) (hlen : ∀ j,j < n → (encs j).length = 3)
  (hn : n ≤ 1000000000000) (hp : ∀ j,j < n → ∀ W,Ext w W → Calls Tryz.prog 46 #[.agg (encs j).toArray] W fun e w' => e = .returned (.bool (p j)) ∧ Ext W w') :
  Calls Tryz.prog 78 #[.slice A n c,.func (.func 46) #[] #[]] w fun e w' => (∃ v : Int,e = .returned (.int .i64 v) ∧ decide (0 ≤ v) = (List.range n).any p) ∧ Ext w w' := by
 have HR := hid hR;have HP := hid hp;have HLN := hid hlen
 clear hR hp hlen
 go_enter Tryz.func78,Tryz.ntmps78
 go_wp2_with fail
 go_loopw [5,8] (fun _ k wr => ∃ t : Nat,t ≤ n ∧ k = .int .i64 (t : Int) ∧ Ext w wr ∧ ∀ j,j < t → p j = false) (fun _ k _ => n - (intOf k).toNat)
 case atStart => exact ⟨0,by omega,rfl,Ext.refl _,fun j hj => by omega⟩
 case round =>
  obtain ⟨t,ht,rfl,hE,hz⟩ := hrel
  have EO := hid hE;have HZ := hid hz
  clear hE hz
  obtain ⟨wo,rfl⟩ : ∃ x : World,x = wr := ⟨_,rfl⟩
  by_cases hlt : t < n
  ·have hA' := hA (by omega)
   subst hA'
   have HRW := hid (HR.out t hlt wo EO.out)
   have HPW := hid (HP.out t hlt)
   have HLE := hid (HLN.out t hlt)
   have HTN : Hid (t + 1 ≤ n) := hid (by omega)
   obtain ⟨E,hE⟩ : ∃ E,E = encs t := ⟨_,rfl⟩
   rw [← hE] at HRW HPW HLE
   obtain ⟨pb,hpb⟩ : ∃ x,x = p t := ⟨_,rfl⟩
   rw [← hpb] at HPW
   have HY : Hid (pb = true → (List.range n).any p = true) := hid (fun h => List.any_eq_true.2 ⟨t,List.mem_range.2 hlt,by rw [← hpb,h]⟩)
   have HN : Hid (pb = false → ∀ j,j < t + 1 → p j = false) := hid (fun h j hj => by
    rcases Nat.lt_or_ge j t with h1 | h1
    ·exact HZ.out j h1
    ·obtain rfl : j = t := by omega
     rw [← hpb,h])
   clear hE hpb
   cases pb
   ·have hN := hid (HN.out rfl)
    go_wp2_with (first
     | (refine wpList_midw (by rfl) 23 (.tmp 14) rfl b (o + t * 3) (by kernel_rfl) E HRW.out Tryz.underlying23 rfl (info_id.trans (congrArg some HLE.out.symm)) ?_)
     | (go_at_call 46;(with_reducible refine (HPW.out wo EO.out).mono ?_);rintro e w2 ⟨rfl,hE2⟩))
    exact ⟨⟨t + 1,HTN.out,by go_num,EO.out.next hE2,hN.out⟩,by have := HTN.out;simp [intOf];omega⟩
   ·have hY := hid (HY.out rfl)
    go_wp2_with (first
     | (refine wpList_midw (by rfl) 23 (.tmp 14) rfl b (o + t * 3) (by kernel_rfl) E HRW.out Tryz.underlying23 rfl (info_id.trans (congrArg some HLE.out.symm)) ?_)
     | (go_at_call 46;(with_reducible refine (HPW.out wo EO.out).mono ?_);rintro e w2 ⟨rfl,hE2⟩))
    go_ret
    exact ⟨⟨(t : Int),rfl,by rw [hY.out];exact decide_eq_true (by omega)⟩,EO.out.next hE2⟩
  ·obtain rfl : t = n := by omega
   have hno : (List.range t).any p = false := by
    rw [Bool.eq_false_iff]
    intro h
    obtain ⟨j,hj,hpj⟩ := List.any_eq_true.1 h
    rw [HZ.out j (List.mem_range.1 hj)] at hpj
    cases hpj
   go_wp2_with fail
   go_ret
   exact ⟨⟨-1,rfl,by rw [hno];rfl⟩,EO.out⟩
theorem containsF_nk {n : Nat} (A : Option Addr) (c : Nat) (p : Nat → Bool) (w : World) (b o : Nat) (hA : 0 < n → A = some ⟨b,o,none⟩) (encs : Nat → List Value) (hR : ∀ j,j < n → ∀ W,Ext w W → W.rangeAt b (o + j * 3) (encs j)) (hlen : ∀ j,j < n → (encs j).length = 3)
  (hn : n ≤ 1000000000000) (hp : ∀ j,j < n → ∀ W,Ext w W → Calls Tryz.prog 46 #[.agg (encs j).toArray] W fun e w' => e = .returned (.bool (p j)) ∧ Ext W w') :
  Calls Tryz.prog 45 #[.slice A n c,.func (.func 46) #[] #[]] w fun e w' => e = .returned (.bool ((List.range n).any p)) ∧ Ext w w' := by
 have HI := hid (indexF_nk A c p w b o hA encs hR hlen hn hp)
 clear hA hR hlen hp
 obtain ⟨eb,heb⟩ : ∃ e,e = (List.range n).any p := ⟨_,rfl⟩
 rw [← heb] at HI ⊢
 clear heb
 go_enter Tryz.func45,Tryz.ntmps45
 go_wp2_with (go_at_call 78;(with_reducible refine HI.out.mono ?_);rintro e w2 ⟨⟨v,rfl,hv⟩,hE2⟩)
 go_ret
 exact ⟨rfl,hE2⟩
theorem indexF_nn {n : Nat} (A : Option Addr) (c : Nat) (p : Nat → Bool) (w : World) (b o : Nat) (hA : 0 < n → A = some ⟨b,o,none⟩) (encs : Nat → Value) (hR : ∀ j,j < n → ∀ W,Ext w W → W.cell? ⟨b,o + j,none⟩ = some (encs j)) 
  (hn : n ≤ 1000000000000) (hp : ∀ j,j < n → ∀ W,Ext w W → Calls Tryz.prog 47 #[encs j] W fun e w' => e = .returned (.bool (p j)) ∧ Ext W w') :
  Calls Tryz.prog 48 #[.slice A n c,.func (.func 47) #[] #[]] w fun e w' => (∃ v : Int,e = .returned (.int .i64 v) ∧ decide (0 ≤ v) = (List.range n).any p) ∧ Ext w w' := by
 have HR := hid hR;have HP := hid hp
 clear hR hp
 go_enter Tryz.func48,Tryz.ntmps48
 go_wp2_with fail
 go_loopw [5,8] (fun _ k wr => ∃ t : Nat,t ≤ n ∧ k = .int .i64 (t : Int) ∧ Ext w wr ∧ ∀ j,j < t → p j = false) (fun _ k _ => n - (intOf k).toNat)
 case atStart => exact ⟨0,by omega,rfl,Ext.refl _,fun j hj => by omega⟩
 case round =>
  obtain ⟨t,ht,rfl,hE,hz⟩ := hrel
  have EO := hid hE;have HZ := hid hz
  clear hE hz
  obtain ⟨wo,rfl⟩ : ∃ x : World,x = wr := ⟨_,rfl⟩
  by_cases hlt : t < n
  ·have hA' := hA (by omega)
   subst hA'
   have HRW := hid (HR.out t hlt wo EO.out)
   have HPW := hid (HP.out t hlt)
   have HTN : Hid (t + 1 ≤ n) := hid (by omega)
   obtain ⟨E,hE⟩ : ∃ E,E = encs t := ⟨_,rfl⟩
   rw [← hE] at HRW HPW
   obtain ⟨pb,hpb⟩ : ∃ x,x = p t := ⟨_,rfl⟩
   rw [← hpb] at HPW
   have HY : Hid (pb = true → (List.range n).any p = true) := hid (fun h => List.any_eq_true.2 ⟨t,List.mem_range.2 hlt,by rw [← hpb,h]⟩)
   have HN : Hid (pb = false → ∀ j,j < t + 1 → p j = false) := hid (fun h j hj => by
    rcases Nat.lt_or_ge j t with h1 | h1
    ·exact HZ.out j h1
    ·obtain rfl : j = t := by omega
     rw [← hpb,h])
   clear hE hpb
   cases pb
   ·have hN := hid (HN.out rfl)
    have crw := HRW.out
    go_wp2_with (first
     | (go_at_call 47;(with_reducible refine (HPW.out wo EO.out).mono ?_);rintro e w2 ⟨rfl,hE2⟩))
    exact ⟨⟨t + 1,HTN.out,by go_num,EO.out.next hE2,hN.out⟩,by have := HTN.out;simp [intOf];omega⟩
   ·have hY := hid (HY.out rfl)
    have crw := HRW.out
    go_wp2_with (first
     | (go_at_call 47;(with_reducible refine (HPW.out wo EO.out).mono ?_);rintro e w2 ⟨rfl,hE2⟩))
    go_ret
    exact ⟨⟨(t : Int),rfl,by rw [hY.out];exact decide_eq_true (by omega)⟩,EO.out.next hE2⟩
  ·obtain rfl : t = n := by omega
   have hno : (List.range t).any p = false := by
    rw [Bool.eq_false_iff]
    intro h
    obtain ⟨j,hj,hpj⟩ := List.any_eq_true.1 h
    rw [HZ.out j (List.mem_range.1 hj)] at hpj
    cases hpj
   go_wp2_with fail
   go_ret
   exact ⟨⟨-1,rfl,by rw [hno];rfl⟩,EO.out⟩
theorem containsF_nn {n : Nat} (A : Option Addr) (c : Nat) (p : Nat → Bool) (w : World) (b o : Nat) (hA : 0 < n → A = some ⟨b,o,none⟩) (encs : Nat → Value) (hR : ∀ j,j < n → ∀ W,Ext w W → W.cell? ⟨b,o + j,none⟩ = some (encs j)) 
  (hn : n ≤ 1000000000000) (hp : ∀ j,j < n → ∀ W,Ext w W → Calls Tryz.prog 47 #[encs j] W fun e w' => e = .returned (.bool (p j)) ∧ Ext W w') :
  Calls Tryz.prog 28 #[.slice A n c,.func (.func 47) #[] #[]] w fun e w' => e = .returned (.bool ((List.range n).any p)) ∧ Ext w w' := by
 have HI := hid (indexF_nn A c p w b o hA encs hR hn hp)
 clear hA hR hp
 obtain ⟨eb,heb⟩ : ∃ e,e = (List.range n).any p := ⟨_,rfl⟩
 rw [← heb] at HI ⊢
 clear heb
 go_enter Tryz.func28,Tryz.ntmps28
 go_wp2_with (go_at_call 48;(with_reducible refine HI.out.mono ?_);rintro e w2 ⟨⟨v,rfl,hv⟩,hE2⟩)
 go_ret
 exact ⟨rfl,hE2⟩
theorem indexF_tx {n : Nat} (A : Option Addr) (c : Nat) (p : Nat → Bool) (w : World) (b o : Nat) (hA : 0 < n → A = some ⟨b,o,none⟩) (encs : Nat → Value) (hR : ∀ j,j < n → ∀ W,Ext w W → W.cell? ⟨b,o + j,none⟩ = some (encs j)) 
  (hn : n ≤ 1000000000000) (hp : ∀ j,j < n → ∀ W,Ext w W → Calls Tryz.prog 29 #[encs j] W fun e w' => e = .returned (.bool (p j)) ∧ Ext W w') :
  Calls Tryz.prog 48 #[.slice A n c,.func (.func 29) #[] #[]] w fun e w' => (∃ v : Int,e = .returned (.int .i64 v) ∧ decide (0 ≤ v) = (List.range n).any p) ∧ Ext w w' := by
 have HR := hid hR;have HP := hid hp
 clear hR hp
 go_enter Tryz.func48,Tryz.ntmps48
 go_wp2_with fail
 go_loopw [5,8] (fun _ k wr => ∃ t : Nat,t ≤ n ∧ k = .int .i64 (t : Int) ∧ Ext w wr ∧ ∀ j,j < t → p j = false) (fun _ k _ => n - (intOf k).toNat)
 case atStart => exact ⟨0,by omega,rfl,Ext.refl _,fun j hj => by omega⟩
 case round =>
  obtain ⟨t,ht,rfl,hE,hz⟩ := hrel
  have EO := hid hE;have HZ := hid hz
  clear hE hz
  obtain ⟨wo,rfl⟩ : ∃ x : World,x = wr := ⟨_,rfl⟩
  by_cases hlt : t < n
  ·have hA' := hA (by omega)
   subst hA'
   have HRW := hid (HR.out t hlt wo EO.out)
   have HPW := hid (HP.out t hlt)
   have HTN : Hid (t + 1 ≤ n) := hid (by omega)
   obtain ⟨E,hE⟩ : ∃ E,E = encs t := ⟨_,rfl⟩
   rw [← hE] at HRW HPW
   obtain ⟨pb,hpb⟩ : ∃ x,x = p t := ⟨_,rfl⟩
   rw [← hpb] at HPW
   have HY : Hid (pb = true → (List.range n).any p = true) := hid (fun h => List.any_eq_true.2 ⟨t,List.mem_range.2 hlt,by rw [← hpb,h]⟩)
   have HN : Hid (pb = false → ∀ j,j < t + 1 → p j = false) := hid (fun h j hj => by
    rcases Nat.lt_or_ge j t with h1 | h1
    ·exact HZ.out j h1
    ·obtain rfl : j = t := by omega
     rw [← hpb,h])
   clear hE hpb
   cases pb
   ·have hN := hid (HN.out rfl)
    have crw := HRW.out
    go_wp2_with (first
     | (go_at_call 29;(with_reducible refine (HPW.out wo EO.out).mono ?_);rintro e w2 ⟨rfl,hE2⟩))
    exact ⟨⟨t + 1,HTN.out,by go_num,EO.out.next hE2,hN.out⟩,by have := HTN.out;simp [intOf];omega⟩
   ·have hY := hid (HY.out rfl)
    have crw := HRW.out
    go_wp2_with (first
     | (go_at_call 29;(with_reducible refine (HPW.out wo EO.out).mono ?_);rintro e w2 ⟨rfl,hE2⟩))
    go_ret
    exact ⟨⟨(t : Int),rfl,by rw [hY.out];exact decide_eq_true (by omega)⟩,EO.out.next hE2⟩
  ·obtain rfl : t = n := by omega
   have hno : (List.range t).any p = false := by
    rw [Bool.eq_false_iff]
    intro h
    obtain ⟨j,hj,hpj⟩ := List.any_eq_true.1 h
    rw [HZ.out j (List.mem_range.1 hj)] at hpj
    cases hpj
   go_wp2_with fail
   go_ret
   exact ⟨⟨-1,rfl,by rw [hno];rfl⟩,EO.out⟩
theorem containsF_tx {n : Nat} (A : Option Addr) (c : Nat) (p : Nat → Bool) (w : World) (b o : Nat) (hA : 0 < n → A = some ⟨b,o,none⟩) (encs : Nat → Value) (hR : ∀ j,j < n → ∀ W,Ext w W → W.cell? ⟨b,o + j,none⟩ = some (encs j)) 
  (hn : n ≤ 1000000000000) (hp : ∀ j,j < n → ∀ W,Ext w W → Calls Tryz.prog 29 #[encs j] W fun e w' => e = .returned (.bool (p j)) ∧ Ext W w') :
  Calls Tryz.prog 28 #[.slice A n c,.func (.func 29) #[] #[]] w fun e w' => e = .returned (.bool ((List.range n).any p)) ∧ Ext w w' := by
 have HI := hid (indexF_tx A c p w b o hA encs hR hn hp)
 clear hA hR hp
 obtain ⟨eb,heb⟩ : ∃ e,e = (List.range n).any p := ⟨_,rfl⟩
 rw [← heb] at HI ⊢
 clear heb
 go_enter Tryz.func28,Tryz.ntmps28
 go_wp2_with (go_at_call 48;(with_reducible refine HI.out.mono ?_);rintro e w2 ⟨⟨v,rfl,hv⟩,hE2⟩)
 go_ret
 exact ⟨rfl,hE2⟩
end Go.Proofs.YtojcmcccahjphaaGreatDoor
/- The reference of package patch: zero types, empty nodes. Conditions: TyV, NodV. -/
set_option maxRecDepth 100000
set_option maxHeartbeats 16000000
namespace Go.Proofs.YtojcmcccahjphaaGreatDoor
open Go.RowKit
open Lib (hid)
attribute [local go_sem ↓] wp_at_zero wp_at_succ
theorem rzero_any (t : List TyN) (cs : List Value) (w : World) (ht : TyV w t cs) : Calls Tryz.prog 36 #[.agg cs.toArray] w fun e w' => e = .returned (.bool (zeroB t)) ∧ Ext w w' := by
 cases t with
 | nil => exact ht.elim
 | cons x r =>
  obtain ⟨A,n,c,rfl,hnc,hc,hn⟩ := ht.head
  obtain ⟨k,s,q,i⟩ := x
  obtain ⟨db,hdb⟩ : ∃ b,b = decide ((⟨s,q,i⟩ : Rid) = ⟨0,0,0⟩) := ⟨_,rfl⟩
  have HQ : Hid (db = (false != decide ((⟨s,q,i⟩ : Rid) = ⟨0,0,0⟩))) := hid (by rw [hdb];simp)
  have HZ : Hid (zeroB (⟨k,s,q,i⟩ :: r) = (decide (k = 0) && db && decide (n = 0))) := hid (by
   rw [hdb]
   rcases hn with ⟨rfl,rfl⟩ | ⟨rfl,hr⟩
   ·simp [zeroB]
   ·cases r with
    | nil => exact absurd rfl hr
    | cons y r => simp [zeroB])
  rw [HZ.out]
  clear ht hdb hn HZ
  unfold tyC
  dsimp only
  have HE : Hid (∀ ty,Ext w (w.alloc (.cells #[.int .i64 k,.int .i64 s,.int .i64 q,.int .i64 i,.slice A n c] ty))) := hid (fun ty => (Ext.refl w).alloc _)
  by_cases hk : k = 0
  ·have hk1 : (k == (0 : Int)) = true := beq_iff_eq.2 hk
   rw [decide_eq_true hk,Bool.true_and]
   clear hk
   cases db
   ·go_enter Tryz.func36,Tryz.ntmps36
    go_wp2_with ((with_reducible refine wpList_idEql s q i 0 0 0 _ HQ.out ?_ ?_ ?_ ?_);kernel_rfl;rfl;rfl)
    go_ret
    exact ⟨rfl,HE.out _⟩
   ·by_cases h0 : n = 0
    ·have h01 : (((n : Nat) : Int) == 0) = true := by rw [beq_iff_eq];omega
     rw [decide_eq_true h0]
     subst h0
     go_enter Tryz.func36,Tryz.ntmps36
     go_wp2_with ((with_reducible refine wpList_idEql s q i 0 0 0 _ HQ.out ?_ ?_ ?_ ?_);kernel_rfl;rfl;rfl)
     go_ret
     exact ⟨rfl,HE.out _⟩
    ·have h01 : (((n : Nat) : Int) == 0) = false := by rw [beq_eq_false_iff_ne];omega
     rw [decide_eq_false h0]
     clear h0
     go_enter Tryz.func36,Tryz.ntmps36
     go_wp2_with ((with_reducible refine wpList_idEql s q i 0 0 0 _ HQ.out ?_ ?_ ?_ ?_);kernel_rfl;rfl;rfl)
     go_ret
     exact ⟨rfl,HE.out _⟩
  ·have hk1 : (k == (0 : Int)) = false := beq_eq_false_iff_ne.2 hk
   rw [decide_eq_false hk,Bool.false_and,Bool.false_and]
   clear hk
   go_enter Tryz.func36,Tryz.ntmps36
   go_wp2_with ((with_reducible refine wpList_idEql s q i 0 0 0 _ HQ.out ?_ ?_ ?_ ?_);kernel_rfl;rfl;rfl)
   go_ret
   exact ⟨rfl,HE.out _⟩
theorem rempty_any (x : NodA) (cs : List Value) (w : World) (hx : NodV w x cs) : Calls Tryz.prog 38 #[.agg cs.toArray] w fun e w' => e = .returned (.bool (emptyB x)) ∧ Ext w w' := by
 obtain ⟨t,A,n,c,B,m,d,rfl,hS⟩ := hx
 obtain ⟨k,N,⟨s,q,i⟩,ty,kids,names⟩ := x
 have hkn := idsC_n hS.kids
 have hmn := strs_n hS.nms
 dsimp only at hkn hmn
 obtain ⟨zb,hzb⟩ : ∃ b,b = zeroB ty := ⟨_,rfl⟩
 have HZ : Hid (∀ W,Ext w W → Calls Tryz.prog 36 #[.agg t.toArray] W fun e w' => e = .returned (.bool zb) ∧ Ext W w') := hid (fun W hW => by rw [hzb];exact rzero_any ty t W (hS.ty.ext hW))
 obtain ⟨db,hdb⟩ : ∃ b,b = decide ((⟨s,q,i⟩ : Rid) = ⟨0,0,0⟩) := ⟨_,rfl⟩
 have HQ : Hid (db = (false != decide ((⟨s,q,i⟩ : Rid) = ⟨0,0,0⟩))) := hid (by rw [hdb];simp)
 have HF : Hid (emptyB ⟨k,N,⟨s,q,i⟩,ty,kids,names⟩ = (decide (k = 0) && (decide (N = 0) && (db && (zb && (decide (n = 0) && decide (m = 0))))))) := hid (by
  unfold emptyB
  rw [hdb,hzb,hkn,hmn]
  simp only [Bool.and_assoc])
 have hL := hS.ty.len
 obtain ⟨t0,t1,t2,t3,t4,rfl⟩ : ∃ a b c d e,t = [a,b,c,d,e] := list5 t hL
 rw [HF.out]
 clear hS hkn hmn hzb hdb HF hL
 show Calls Tryz.prog 38 #[.agg #[.int .i64 k,.int .i64 N,.int .i64 s,.int .i64 q,.int .i64 i,t0,t1,t2,t3,t4,.slice A n c,.slice B m d]] w _
 obtain ⟨w1,hw1⟩ : ∃ x,x = w.alloc (.cells #[.int .i64 k,.int .i64 N,.int .i64 s,.int .i64 q,.int .i64 i,t0,t1,t2,t3,t4,.slice A n c,.slice B m d] 30) := ⟨_,rfl⟩
 have E1 : Hid (Ext w w1) := hid (by rw [hw1];exact (Ext.refl w).alloc _)
 have B1 : Hid (Blk w1 w.heap.size 30 [.int .i64 k,.int .i64 N,.int .i64 s,.int .i64 q,.int .i64 i,t0,t1,t2,t3,t4,.slice A n c,.slice B m d]) := hid (by rw [hw1];exact Blk.fresh' _ _ _ _ _ rfl rfl)
 have HR5 : Hid (w1.rangeAt w.heap.size 5 [t0,t1,t2,t3,t4]) := hid (range_mid B1.out.range 5 [t0,t1,t2,t3,t4] rfl)
 by_cases h0 : k = 0
 ·subst h0
  rw [decide_eq_true rfl,Bool.true_and]
  by_cases h1 : N = 0
  ·subst h1
   rw [decide_eq_true rfl,Bool.true_and]
   cases db
   ·rw [Bool.false_and]
    go_enter Tryz.func38,Tryz.ntmps38
    go_upto_region 1 with fail
    change Code.wp _ _ _ _ (w.alloc (.cells #[.int .i64 0,.int .i64 0,.int .i64 s,.int .i64 q,.int .i64 i,t0,t1,t2,t3,t4,.slice A n c,.slice B m d] 30))
    rw [← hw1]
    clear hw1
    obtain ⟨c0,c1,c2,c3,c4,c5,c6,c7,c8,c9,c10,c11⟩ := nod_cell B1.out
    go_wp2_with (first
     | ((with_reducible refine wpList_idEql s q i 0 0 0 _ HQ.out ?_ ?_ ?_ ?_);kernel_rfl;rfl;rfl)
     | ((with_reducible refine wpList_load_row 26 w.heap.size 5 [t0,t1,t2,t3,t4] HR5.out Tryz.underlying26 rfl (ty_info.trans rfl) ?_ ?_ ?_);kernel_rfl;rfl)
     | (go_at_call 36;(with_reducible refine (HZ.out w1 E1.out).mono ?_);rintro e w3 ⟨rfl,hE3⟩;have E1 : Hid (Ext w w3) := hid (E1.out.next hE3);have BE3 := hid (B1.out.ext hE3);obtain ⟨d0,d1,d2,d3,d4,d5,d6,d7,d8,d9,d10,d11⟩ := nod_cell BE3.out;clear hE3))
    go_ret
    exact ⟨rfl,E1.out⟩
   ·rw [Bool.true_and]
    cases zb
    ·rw [Bool.false_and]
     go_enter Tryz.func38,Tryz.ntmps38
     go_upto_region 1 with fail
     change Code.wp _ _ _ _ (w.alloc (.cells #[.int .i64 0,.int .i64 0,.int .i64 s,.int .i64 q,.int .i64 i,t0,t1,t2,t3,t4,.slice A n c,.slice B m d] 30))
     rw [← hw1]
     clear hw1
     obtain ⟨c0,c1,c2,c3,c4,c5,c6,c7,c8,c9,c10,c11⟩ := nod_cell B1.out
     go_wp2_with (first
      | ((with_reducible refine wpList_idEql s q i 0 0 0 _ HQ.out ?_ ?_ ?_ ?_);kernel_rfl;rfl;rfl)
      | ((with_reducible refine wpList_load_row 26 w.heap.size 5 [t0,t1,t2,t3,t4] HR5.out Tryz.underlying26 rfl (ty_info.trans rfl) ?_ ?_ ?_);kernel_rfl;rfl)
      | (go_at_call 36;(with_reducible refine (HZ.out w1 E1.out).mono ?_);rintro e w3 ⟨rfl,hE3⟩;have E1 : Hid (Ext w w3) := hid (E1.out.next hE3);have BE3 := hid (B1.out.ext hE3);obtain ⟨d0,d1,d2,d3,d4,d5,d6,d7,d8,d9,d10,d11⟩ := nod_cell BE3.out;clear hE3))
     go_ret
     exact ⟨rfl,E1.out⟩
    ·rw [Bool.true_and]
     by_cases h2 : n = 0
     ·subst h2
      rw [decide_eq_true rfl,Bool.true_and]
      by_cases h3 : m = 0
      ·subst h3
       rw [decide_eq_true rfl]
       go_enter Tryz.func38,Tryz.ntmps38
       go_upto_region 1 with fail
       change Code.wp _ _ _ _ (w.alloc (.cells #[.int .i64 0,.int .i64 0,.int .i64 s,.int .i64 q,.int .i64 i,t0,t1,t2,t3,t4,.slice A 0 c,.slice B 0 d] 30))
       rw [← hw1]
       clear hw1
       obtain ⟨c0,c1,c2,c3,c4,c5,c6,c7,c8,c9,c10,c11⟩ := nod_cell B1.out
       go_wp2_with (first
        | ((with_reducible refine wpList_idEql s q i 0 0 0 _ HQ.out ?_ ?_ ?_ ?_);kernel_rfl;rfl;rfl)
        | ((with_reducible refine wpList_load_row 26 w.heap.size 5 [t0,t1,t2,t3,t4] HR5.out Tryz.underlying26 rfl (ty_info.trans rfl) ?_ ?_ ?_);kernel_rfl;rfl)
        | (go_at_call 36;(with_reducible refine (HZ.out w1 E1.out).mono ?_);rintro e w3 ⟨rfl,hE3⟩;have E1 : Hid (Ext w w3) := hid (E1.out.next hE3);have BE3 := hid (B1.out.ext hE3);obtain ⟨d0,d1,d2,d3,d4,d5,d6,d7,d8,d9,d10,d11⟩ := nod_cell BE3.out;clear hE3))
       go_ret
       exact ⟨rfl,E1.out⟩
      ·have h3b : (((m : Nat) : Int) == 0) = false := by rw [beq_eq_false_iff_ne];omega
       rw [decide_eq_false h3]
       clear h3
       go_enter Tryz.func38,Tryz.ntmps38
       go_upto_region 1 with fail
       change Code.wp _ _ _ _ (w.alloc (.cells #[.int .i64 0,.int .i64 0,.int .i64 s,.int .i64 q,.int .i64 i,t0,t1,t2,t3,t4,.slice A 0 c,.slice B m d] 30))
       rw [← hw1]
       clear hw1
       obtain ⟨c0,c1,c2,c3,c4,c5,c6,c7,c8,c9,c10,c11⟩ := nod_cell B1.out
       go_wp2_with (first
        | ((with_reducible refine wpList_idEql s q i 0 0 0 _ HQ.out ?_ ?_ ?_ ?_);kernel_rfl;rfl;rfl)
        | ((with_reducible refine wpList_load_row 26 w.heap.size 5 [t0,t1,t2,t3,t4] HR5.out Tryz.underlying26 rfl (ty_info.trans rfl) ?_ ?_ ?_);kernel_rfl;rfl)
        | (go_at_call 36;(with_reducible refine (HZ.out w1 E1.out).mono ?_);rintro e w3 ⟨rfl,hE3⟩;have E1 : Hid (Ext w w3) := hid (E1.out.next hE3);have BE3 := hid (B1.out.ext hE3);obtain ⟨d0,d1,d2,d3,d4,d5,d6,d7,d8,d9,d10,d11⟩ := nod_cell BE3.out;clear hE3))
       go_ret
       exact ⟨rfl,E1.out⟩
     ·have h2b : (((n : Nat) : Int) == 0) = false := by rw [beq_eq_false_iff_ne];omega
      rw [decide_eq_false h2,Bool.false_and]
      clear h2
      go_enter Tryz.func38,Tryz.ntmps38
      go_upto_region 1 with fail
      change Code.wp _ _ _ _ (w.alloc (.cells #[.int .i64 0,.int .i64 0,.int .i64 s,.int .i64 q,.int .i64 i,t0,t1,t2,t3,t4,.slice A n c,.slice B m d] 30))
      rw [← hw1]
      clear hw1
      obtain ⟨c0,c1,c2,c3,c4,c5,c6,c7,c8,c9,c10,c11⟩ := nod_cell B1.out
      go_wp2_with (first
       | ((with_reducible refine wpList_idEql s q i 0 0 0 _ HQ.out ?_ ?_ ?_ ?_);kernel_rfl;rfl;rfl)
       | ((with_reducible refine wpList_load_row 26 w.heap.size 5 [t0,t1,t2,t3,t4] HR5.out Tryz.underlying26 rfl (ty_info.trans rfl) ?_ ?_ ?_);kernel_rfl;rfl)
       | (go_at_call 36;(with_reducible refine (HZ.out w1 E1.out).mono ?_);rintro e w3 ⟨rfl,hE3⟩;have E1 : Hid (Ext w w3) := hid (E1.out.next hE3);have BE3 := hid (B1.out.ext hE3);obtain ⟨d0,d1,d2,d3,d4,d5,d6,d7,d8,d9,d10,d11⟩ := nod_cell BE3.out;clear hE3))
      go_ret
      exact ⟨rfl,E1.out⟩
  ·have h1b : (N == (0 : Int)) = false := beq_eq_false_iff_ne.2 h1
   rw [decide_eq_false h1,Bool.false_and]
   clear h1
   go_enter Tryz.func38,Tryz.ntmps38
   go_upto_region 1 with fail
   change Code.wp _ _ _ _ (w.alloc (.cells #[.int .i64 0,.int .i64 N,.int .i64 s,.int .i64 q,.int .i64 i,t0,t1,t2,t3,t4,.slice A n c,.slice B m d] 30))
   rw [← hw1]
   clear hw1
   obtain ⟨c0,c1,c2,c3,c4,c5,c6,c7,c8,c9,c10,c11⟩ := nod_cell B1.out
   go_wp2_with (first
    | ((with_reducible refine wpList_idEql s q i 0 0 0 _ HQ.out ?_ ?_ ?_ ?_);kernel_rfl;rfl;rfl)
    | ((with_reducible refine wpList_load_row 26 w.heap.size 5 [t0,t1,t2,t3,t4] HR5.out Tryz.underlying26 rfl (ty_info.trans rfl) ?_ ?_ ?_);kernel_rfl;rfl)
    | (go_at_call 36;(with_reducible refine (HZ.out w1 E1.out).mono ?_);rintro e w3 ⟨rfl,hE3⟩;have E1 : Hid (Ext w w3) := hid (E1.out.next hE3);have BE3 := hid (B1.out.ext hE3);obtain ⟨d0,d1,d2,d3,d4,d5,d6,d7,d8,d9,d10,d11⟩ := nod_cell BE3.out;clear hE3))
   go_ret
   exact ⟨rfl,E1.out⟩
 ·have h0b : (k == (0 : Int)) = false := beq_eq_false_iff_ne.2 h0
  rw [decide_eq_false h0,Bool.false_and]
  clear h0
  go_enter Tryz.func38,Tryz.ntmps38
  go_upto_region 1 with fail
  change Code.wp _ _ _ _ (w.alloc (.cells #[.int .i64 k,.int .i64 N,.int .i64 s,.int .i64 q,.int .i64 i,t0,t1,t2,t3,t4,.slice A n c,.slice B m d] 30))
  rw [← hw1]
  clear hw1
  obtain ⟨c0,c1,c2,c3,c4,c5,c6,c7,c8,c9,c10,c11⟩ := nod_cell B1.out
  go_wp2_with (first
   | ((with_reducible refine wpList_idEql s q i 0 0 0 _ HQ.out ?_ ?_ ?_ ?_);kernel_rfl;rfl;rfl)
   | ((with_reducible refine wpList_load_row 26 w.heap.size 5 [t0,t1,t2,t3,t4] HR5.out Tryz.underlying26 rfl (ty_info.trans rfl) ?_ ?_ ?_);kernel_rfl;rfl)
   | (go_at_call 36;(with_reducible refine (HZ.out w1 E1.out).mono ?_);rintro e w3 ⟨rfl,hE3⟩;have E1 : Hid (Ext w w3) := hid (E1.out.next hE3);have BE3 := hid (B1.out.ext hE3);obtain ⟨d0,d1,d2,d3,d4,d5,d6,d7,d8,d9,d10,d11⟩ := nod_cell BE3.out;clear hE3))
  go_ret
  exact ⟨rfl,E1.out⟩
end Go.Proofs.YtojcmcccahjphaaGreatDoor
