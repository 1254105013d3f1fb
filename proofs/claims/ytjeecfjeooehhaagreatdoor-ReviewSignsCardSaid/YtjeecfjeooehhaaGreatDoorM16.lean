/- slices.IndexFunc and ContainsFunc with Standing's closures. Conditions: the slices can be read. -/
import Derived.Test.YtjeecfjeooehhaaGreatDoorM15
import Derived.Test.YtjeecfjeooehhaaGreatDoorM3
import Derived.Laws.CopyRow
set_option linter.unusedSimpArgs false
set_option linter.unusedVariables false
set_option maxHeartbeats 16000000
set_option maxRecDepth 100000
namespace Go.Proofs.YtjeecfjeooehhaaGreatDoor
open Go.RowKit
open Lib (hid)
attribute [local go_sem ↓] wp_at_zero wp_at_succ
section
variable {α β : Type}
theorem flatK_len (f : α → List β) (K : Nat) : ∀ (L : List α),(∀ x ∈ L,(f x).length = K) → (L.flatMap f).length = L.length * K
 | [],_ => by simp
 | x :: L,h => by
  rw [List.flatMap_cons,List.length_append,h x (List.mem_cons_self ..),flatK_len f K L (fun y hy => h y (List.mem_cons_of_mem _ hy)),List.length_cons,Nat.succ_mul,Nat.add_comm]
theorem flatK_at (f : α → List β) (K : Nat) : ∀ (L : List α),(∀ x ∈ L,(f x).length = K) → ∀ (k : Nat) (x : α),L[k]? = some x → ∀ j,j < K → (L.flatMap f)[k * K + j]? = (f x)[j]?
 | [],_,_,_,h,_,_ => by simp at h
 | y :: L,hK,0,x,h,j,hj => by
  simp only [List.getElem?_cons_zero,Option.some.injEq] at h
  subst h
  rw [List.flatMap_cons,Nat.zero_mul,Nat.zero_add,List.getElem?_append_left (by rw [hK y (List.mem_cons_self ..)];exact hj)]
 | y :: L,hK,k + 1,x,h,j,hj => by
  simp only [List.getElem?_cons_succ] at h
  have hy := hK y (List.mem_cons_self ..)
  rw [List.flatMap_cons,List.getElem?_append_right (by rw [hy,Nat.succ_mul];omega),hy]
  have e : (k + 1) * K + j - K = k * K + j := by rw [Nat.succ_mul];omega
  rw [e]
  exact flatK_at f K L (fun z hz => hK z (List.mem_cons_of_mem _ hz)) k x h j hj
end
structure RX where
 r : Rev
 A : Option Addr
 n : Nat
 c : Nat
def rxC (x : RX) : List Value := revC x.r x.A x.n x.c
def rxsC (L : List RX) : List Value := L.flatMap rxC
def RXV (w : World) (x : RX) : Prop := RevV w x.r x.A x.n x.c
theorem RXV.ext {w w' : World} {x : RX} (h : RXV w x) (hE : Ext w w') : RXV w' x := RevV.ext h hE
theorem RXV.len {w : World} {x : RX} (h : RXV w x) : (rxC x).length = 22 := revC_len _ _ _ _ h.mean
theorem rxC_one (x : RX) : ∀ v ∈ rxC x,v.oneCell' = true := revC_one _ _ _ _
theorem rx_at {w : World} {B n : Nat} {A : Option Addr} {L : List RX} (h : RdN w B 22 A n (rxsC L)) (hL : ∀ x ∈ L,(rxC x).length = 22) (hn : 0 < n) : ∃ b p,A = some ⟨b,p,none⟩ ∧ b < B ∧ ∀ W : World,(∀ a : Addr,a.block < B → W.cell? a = w.cell? a) → ∀ k x,L[k]? = some x → W.rangeAt b (p + k * 22) (rxC x) := by
 obtain ⟨b,p,hA,hb,hc⟩ := h.2 hn
 refine ⟨b,p,hA,hb,fun W hW k x hx j u hu => ?_⟩
 have hj : j < 22 := by
  have := (List.getElem?_eq_some_iff.1 hu).1
  rw [hL x (List.mem_of_getElem? hx)] at this
  exact this
 rw [Nat.add_assoc]
 exact (hW _ hb).trans (hc (k * 22 + j) u ((flatK_at rxC 22 L hL k x hx j hj).trans hu))
theorem rx_n {w : World} {B n : Nat} {A : Option Addr} {L : List RX} (h : RdN w B 22 A n (rxsC L)) (hL : ∀ x ∈ L,(rxC x).length = 22) : L.length = n := by
 have h1 := h.1
 unfold rxsC at h1
 rw [flatK_len rxC 22 L hL] at h1
 omega
def meetB (a b : List Rid) : Bool := a.any fun x => decide (x ∈ b)
theorem clos3_any (y : RX) (x : Rid) (g : Nat) (w : World) (hB : Blk w g 28 (rxC y)) (hy : RXV w y) :
  Calls Tryz.prog 85 #[.agg #[.int .i64 x.s,.int .i64 x.q,.int .i64 x.i],.pointer (some ⟨g,0,none⟩)] w fun e w' => e = .returned (.bool (decide (x ∈ y.r.ops))) ∧ Ext w w' := by
 have HC : Hid (∀ W,Ext w W → Calls Tryz.prog 86 #[.slice y.A y.n y.c,.agg #[.int .i64 x.s,.int .i64 x.q,.int .i64 x.i]] W fun e w' => e = .returned (.bool (decide (x ∈ y.r.ops))) ∧ Ext W w') := hid (fun W hW => contains_id y.r.ops x y.A y.n y.c W (hy.ext hW).row hy.few)
 have HB := hid hB
 clear hy hB
 obtain ⟨s,q,z⟩ := x
 obtain ⟨yr,yA,yn,yc⟩ := y
 dsimp only at HC ⊢
 obtain ⟨eb,heb⟩ : ∃ e,e = decide ((⟨s,q,z⟩ : Rid) ∈ yr.ops) := ⟨_,rfl⟩
 rw [← heb] at HC ⊢
 clear heb
 go_enter Tryz.func85,Tryz.ntmps85
 go_upto_region 1 with fail
 obtain ⟨w1,hw1⟩ : ∃ x,x = w.alloc (.cells #[.int .i64 s,.int .i64 q,.int .i64 z] 68) := ⟨_,rfl⟩
 change Code.wp _ _ _ _ (w.alloc (.cells #[.int .i64 s,.int .i64 q,.int .i64 z] 68))
 rw [← hw1]
 have E1 : Hid (Ext w w1) := hid (by rw [hw1];exact (Ext.refl w).alloc _)
 have BX : Hid (Blk w1 w.heap.size 68 [.int .i64 s,.int .i64 q,.int .i64 z]) := hid (by rw [hw1];exact Blk.fresh' _ _ _ _ _ rfl rfl)
 have c4 : w1.cell? ⟨g,4,none⟩ = some (.slice yA yn yc) := (HB.out.ext E1.out).cell 4
 clear hw1
 go_wp2_with (first
  | (refine wpList_load_blk rfl 68 (.tmp 2) rfl w.heap.size (by kernel_rfl) BX.out Tryz.underlying68 rfl (info_id.trans rfl) ?_)
  | (go_at_call 86;(with_reducible refine (HC.out w1 E1.out).mono ?_);rintro e w2 ⟨rfl,hE2⟩))
 go_ret
 exact ⟨rfl,E1.out.next hE2⟩
theorem indexF_id {n : Nat} (A : Option Addr) (c : Nat) (v1 : Value) (p : Nat → Bool) (w : World) (b o : Nat) (hA : 0 < n → A = some ⟨b,o,none⟩) (encs : Nat → List Value) (hR : ∀ j,j < n → ∀ W,Ext w W → W.rangeAt b (o + j * 3) (encs j)) (hlen : ∀ j,j < n → (encs j).length = 3)
  (hn : n ≤ 1000000000000) (hp : ∀ j,j < n → ∀ W,Ext w W → Calls Tryz.prog 85 #[.agg (encs j).toArray,v1] W fun e w' => e = .returned (.bool (p j)) ∧ Ext W w') :
  Calls Tryz.prog 123 #[.slice A n c,.func (.func 85) #[] #[v1]] w fun e w' => (∃ v : Int,e = .returned (.int .i64 v) ∧ decide (0 ≤ v) = (List.range n).any p) ∧ Ext w w' := by
 have HR := hid hR;have HP := hid hp;have HLN := hid hlen
 clear hR hp hlen
 go_enter Tryz.func123,Tryz.ntmps123
 go_wp2_with fail
 go_loopw [5,8] (fun _ k wr => ∃ t : Nat,t ≤ n ∧ k = .int .i64 (t : Int) ∧ Ext w wr ∧ ∀ j,j < t → p j = false) (fun _ k _ => n - (intOf k).toNat)
 case atStart => exact ⟨0,by omega,rfl,Ext.refl _,fun j hj => by omega⟩
 case round =>
  obtain ⟨t,ht,rfl,hE,hz⟩ := hrel
  have EO := hid hE;have HZ := hid hz
  clear hE hz
  obtain ⟨wo,rfl⟩ : ∃ x : World,x = wr := ⟨_,rfl⟩
  by_cases hlt : t < n
  ·have hA' := hA (by omega)
   subst hA'
   have HRW := hid (HR.out t hlt wo EO.out)
   have HPW := hid (HP.out t hlt)
   have HLE := hid (HLN.out t hlt)
   have HTN : Hid (t + 1 ≤ n) := hid (by omega)
   obtain ⟨E,hE⟩ : ∃ E,E = encs t := ⟨_,rfl⟩
   rw [← hE] at HRW HPW HLE
   obtain ⟨pb,hpb⟩ : ∃ x,x = p t := ⟨_,rfl⟩
   rw [← hpb] at HPW
   have HY : Hid (pb = true → (List.range n).any p = true) := hid (fun h => List.any_eq_true.2 ⟨t,List.mem_range.2 hlt,by rw [← hpb,h]⟩)
   have HN : Hid (pb = false → ∀ j,j < t + 1 → p j = false) := hid (fun h j hj => by
    rcases Nat.lt_or_ge j t with h1 | h1
    ·exact HZ.out j h1
    ·obtain rfl : j = t := by omega
     rw [← hpb,h])
   clear hE hpb
   cases pb
   ·have hN := hid (HN.out rfl)
    go_wp2_with (first
     | (refine wpList_midw (by rfl) 68 (.tmp 14) rfl b (o + t * 3) (by kernel_rfl) E HRW.out Tryz.underlying68 rfl (info_id.trans (congrArg some HLE.out.symm)) ?_)
     | (go_at_call 85;(with_reducible refine (HPW.out wo EO.out).mono ?_);rintro e w2 ⟨rfl,hE2⟩))
    exact ⟨⟨t + 1,HTN.out,by go_num,EO.out.next hE2,hN.out⟩,by have := HTN.out;simp [intOf];omega⟩
   ·have hY := hid (HY.out rfl)
    go_wp2_with (first
     | (refine wpList_midw (by rfl) 68 (.tmp 14) rfl b (o + t * 3) (by kernel_rfl) E HRW.out Tryz.underlying68 rfl (info_id.trans (congrArg some HLE.out.symm)) ?_)
     | (go_at_call 85;(with_reducible refine (HPW.out wo EO.out).mono ?_);rintro e w2 ⟨rfl,hE2⟩))
    go_ret
    exact ⟨⟨(t : Int),rfl,by rw [hY.out];exact decide_eq_true (by omega)⟩,EO.out.next hE2⟩
  ·obtain rfl : t = n := by omega
   have hno : (List.range t).any p = false := by
    rw [Bool.eq_false_iff]
    intro h
    obtain ⟨j,hj,hpj⟩ := List.any_eq_true.1 h
    rw [HZ.out j (List.mem_range.1 hj)] at hpj
    cases hpj
   go_wp2_with fail
   go_ret
   exact ⟨⟨-1,rfl,by rw [hno];rfl⟩,EO.out⟩
theorem containsF_id {n : Nat} (A : Option Addr) (c : Nat) (v1 : Value) (p : Nat → Bool) (w : World) (b o : Nat) (hA : 0 < n → A = some ⟨b,o,none⟩) (encs : Nat → List Value) (hR : ∀ j,j < n → ∀ W,Ext w W → W.rangeAt b (o + j * 3) (encs j)) (hlen : ∀ j,j < n → (encs j).length = 3)
  (hn : n ≤ 1000000000000) (hp : ∀ j,j < n → ∀ W,Ext w W → Calls Tryz.prog 85 #[.agg (encs j).toArray,v1] W fun e w' => e = .returned (.bool (p j)) ∧ Ext W w') :
  Calls Tryz.prog 84 #[.slice A n c,.func (.func 85) #[] #[v1]] w fun e w' => e = .returned (.bool ((List.range n).any p)) ∧ Ext w w' := by
 have HI := hid (indexF_id A c v1 p w b o hA encs hR hlen hn hp)
 clear hA hR hlen hp
 obtain ⟨eb,heb⟩ : ∃ e,e = (List.range n).any p := ⟨_,rfl⟩
 rw [← heb] at HI ⊢
 clear heb
 go_enter Tryz.func84,Tryz.ntmps84
 go_wp2_with (go_at_call 123;(with_reducible refine HI.out.mono ?_);rintro e w2 ⟨⟨v,rfl,hv⟩,hE2⟩)
 go_ret
 exact ⟨rfl,hE2⟩
theorem indexF_rv {n : Nat} (A : Option Addr) (c : Nat) (v1 v2 : Value) (p : Nat → Bool) (w : World) (b o : Nat) (hA : 0 < n → A = some ⟨b,o,none⟩) (encs : Nat → List Value) (hR : ∀ j,j < n → ∀ W,Ext w W → W.rangeAt b (o + j * 22) (encs j)) (hlen : ∀ j,j < n → (encs j).length = 22)
  (hn : n ≤ 1000000000000) (hp : ∀ j,j < n → ∀ W,Ext w W → Calls Tryz.prog 83 #[.agg (encs j).toArray,v1,v2] W fun e w' => e = .returned (.bool (p j)) ∧ Ext W w') :
  Calls Tryz.prog 122 #[.slice A n c,.func (.func 83) #[] #[v1,v2]] w fun e w' => (∃ v : Int,e = .returned (.int .i64 v) ∧ decide (0 ≤ v) = (List.range n).any p) ∧ Ext w w' := by
 have HR := hid hR;have HP := hid hp;have HLN := hid hlen
 clear hR hp hlen
 go_enter Tryz.func122,Tryz.ntmps122
 go_wp2_with fail
 go_loopw [5,8] (fun _ k wr => ∃ t : Nat,t ≤ n ∧ k = .int .i64 (t : Int) ∧ Ext w wr ∧ ∀ j,j < t → p j = false) (fun _ k _ => n - (intOf k).toNat)
 case atStart => exact ⟨0,by omega,rfl,Ext.refl _,fun j hj => by omega⟩
 case round =>
  obtain ⟨t,ht,rfl,hE,hz⟩ := hrel
  have EO := hid hE;have HZ := hid hz
  clear hE hz
  obtain ⟨wo,rfl⟩ : ∃ x : World,x = wr := ⟨_,rfl⟩
  by_cases hlt : t < n
  ·have hA' := hA (by omega)
   subst hA'
   have HRW := hid (HR.out t hlt wo EO.out)
   have HPW := hid (HP.out t hlt)
   have HLE := hid (HLN.out t hlt)
   have HTN : Hid (t + 1 ≤ n) := hid (by omega)
   obtain ⟨E,hE⟩ : ∃ E,E = encs t := ⟨_,rfl⟩
   rw [← hE] at HRW HPW HLE
   obtain ⟨pb,hpb⟩ : ∃ x,x = p t := ⟨_,rfl⟩
   rw [← hpb] at HPW
   have HY : Hid (pb = true → (List.range n).any p = true) := hid (fun h => List.any_eq_true.2 ⟨t,List.mem_range.2 hlt,by rw [← hpb,h]⟩)
   have HN : Hid (pb = false → ∀ j,j < t + 1 → p j = false) := hid (fun h j hj => by
    rcases Nat.lt_or_ge j t with h1 | h1
    ·exact HZ.out j h1
    ·obtain rfl : j = t := by omega
     rw [← hpb,h])
   clear hE hpb
   cases pb
   ·have hN := hid (HN.out rfl)
    go_wp2_with (first
     | (refine wpList_midw (by rfl) 28 (.tmp 14) rfl b (o + t * 22) (by kernel_rfl) E HRW.out Tryz.underlying28 rfl (info_rev.trans (congrArg some HLE.out.symm)) ?_)
     | (go_at_call 83;(with_reducible refine (HPW.out wo EO.out).mono ?_);rintro e w2 ⟨rfl,hE2⟩))
    exact ⟨⟨t + 1,HTN.out,by go_num,EO.out.next hE2,hN.out⟩,by have := HTN.out;simp [intOf];omega⟩
   ·have hY := hid (HY.out rfl)
    go_wp2_with (first
     | (refine wpList_midw (by rfl) 28 (.tmp 14) rfl b (o + t * 22) (by kernel_rfl) E HRW.out Tryz.underlying28 rfl (info_rev.trans (congrArg some HLE.out.symm)) ?_)
     | (go_at_call 83;(with_reducible refine (HPW.out wo EO.out).mono ?_);rintro e w2 ⟨rfl,hE2⟩))
    go_ret
    exact ⟨⟨(t : Int),rfl,by rw [hY.out];exact decide_eq_true (by omega)⟩,EO.out.next hE2⟩
  ·obtain rfl : t = n := by omega
   have hno : (List.range t).any p = false := by
    rw [Bool.eq_false_iff]
    intro h
    obtain ⟨j,hj,hpj⟩ := List.any_eq_true.1 h
    rw [HZ.out j (List.mem_range.1 hj)] at hpj
    cases hpj
   go_wp2_with fail
   go_ret
   exact ⟨⟨-1,rfl,by rw [hno];rfl⟩,EO.out⟩
theorem containsF_rv {n : Nat} (A : Option Addr) (c : Nat) (v1 v2 : Value) (p : Nat → Bool) (w : World) (b o : Nat) (hA : 0 < n → A = some ⟨b,o,none⟩) (encs : Nat → List Value) (hR : ∀ j,j < n → ∀ W,Ext w W → W.rangeAt b (o + j * 22) (encs j)) (hlen : ∀ j,j < n → (encs j).length = 22)
  (hn : n ≤ 1000000000000) (hp : ∀ j,j < n → ∀ W,Ext w W → Calls Tryz.prog 83 #[.agg (encs j).toArray,v1,v2] W fun e w' => e = .returned (.bool (p j)) ∧ Ext W w') :
  Calls Tryz.prog 82 #[.slice A n c,.func (.func 83) #[] #[v1,v2]] w fun e w' => e = .returned (.bool ((List.range n).any p)) ∧ Ext w w' := by
 have HI := hid (indexF_rv A c v1 v2 p w b o hA encs hR hlen hn hp)
 clear hA hR hlen hp
 obtain ⟨eb,heb⟩ : ∃ e,e = (List.range n).any p := ⟨_,rfl⟩
 rw [← heb] at HI ⊢
 clear heb
 go_enter Tryz.func82,Tryz.ntmps82
 go_wp2_with (go_at_call 122;(with_reducible refine HI.out.mono ?_);rintro e w2 ⟨⟨v,rfl,hv⟩,hE2⟩)
 go_ret
 exact ⟨rfl,hE2⟩
end Go.Proofs.YtjeecfjeooehhaaGreatDoor
/- Standing's closures, and slices.Clone at IDs. Conditions: the slices can be read. -/
namespace Go.Proofs.YtjeecfjeooehhaaGreatDoor
open Go.RowKit
open Lib (hid)
attribute [local go_sem ↓] wp_at_zero wp_at_succ
def wdB (day : Int) (y r : Rev) : Bool := y.wd && (decide (y.shop = r.shop) && (decide (r.seq < y.seq) && (decide (y.day ≤ day) && meetB r.ops y.ops)))
theorem range_any (a : List Rid) (n : Nat) (h : a.length = n) (f : Rid → Bool) : (List.range n).any (fun j => f (a.getD j rid0)) = a.any f := by
 rw [Bool.eq_iff_iff,List.any_eq_true,List.any_eq_true]
 constructor
 ·rintro ⟨j,hj,hf⟩
  have hj' := List.mem_range.1 hj
  exact ⟨_,List.mem_of_getElem? (getD_of (by omega)),hf⟩
 ·rintro ⟨x,hx,hf⟩
  obtain ⟨j,hj,rfl⟩ := List.getElem_of_mem hx
  refine ⟨j,List.mem_range.2 (by omega),?_⟩
  rw [List.getD_eq_getElem?_getD,List.getElem?_eq_getElem hj]
  exact hf
theorem clos2_any (y r : RX) (day : Int) (gr gd : Nat) (w : World) (hy : RXV w y) (hr : RXV w r) (hB : Blk w gr 28 (rxC r)) (hD : Blk w gd 3 [.int .i64 day]) :
  Calls Tryz.prog 83 #[.agg (rxC y).toArray,.pointer (some ⟨gr,0,none⟩),.pointer (some ⟨gd,0,none⟩)] w fun e w' => e = .returned (.bool (wdB day y.r r.r)) ∧ Ext w w' := by
 have HY := hid hy;have HRX := hid hr;have HB := hid hB;have HD := hid hD
 clear hy hr hB hD
 obtain ⟨wd,hwd⟩ : ∃ x,x = y.r.wd := ⟨_,rfl⟩
 obtain ⟨s1,hs1⟩ : ∃ x,x = y.r.shop := ⟨_,rfl⟩
 obtain ⟨s2,hs2⟩ : ∃ x,x = r.r.shop := ⟨_,rfl⟩
 obtain ⟨q1,hq1⟩ : ∃ x,x = y.r.seq := ⟨_,rfl⟩
 obtain ⟨q2,hq2⟩ : ∃ x,x = r.r.seq := ⟨_,rfl⟩
 obtain ⟨d1,hd1⟩ : ∃ x,x = y.r.day := ⟨_,rfl⟩
 obtain ⟨mb,hmb⟩ : ∃ x,x = meetB r.r.ops y.r.ops := ⟨_,rfl⟩
 obtain ⟨nr,hnr⟩ : ∃ x,x = r.n := ⟨_,rfl⟩
 obtain ⟨cr,hcr⟩ : ∃ x,x = r.c := ⟨_,rfl⟩
 obtain ⟨Ar,hAr⟩ : ∃ x,x = r.A := ⟨_,rfl⟩
 have HV : Hid (wdB day y.r r.r = (wd && (decide (s1 = s2) && (decide (q2 < q1) && (decide (d1 ≤ day) && mb))))) := hid (by unfold wdB;rw [hwd,hs1,hs2,hq1,hq2,hd1,hmb])
 have HCF : Hid (∀ W,Ext (w.alloc (.cells (rxC y).toArray 28)) W → Calls Tryz.prog 84 #[.slice Ar nr cr,.func (.func 85) #[] #[.pointer (some ⟨w.heap.size,0,none⟩)]] W fun e w' => e = .returned (.bool mb) ∧ Ext W w') := hid (fun W hW => by
  have hEW : Ext w W := ((Ext.refl w).alloc _).next hW
  have hrw := HRX.out.ext hEW
  have hBy : Blk W w.heap.size 28 (rxC y) := (Blk.fresh' w 28 (rxC y) _ _ rfl rfl).ext hW
  have hrl := idsC_n hrw.row
  rw [hAr,hnr,hcr,hmb]
  unfold meetB
  rw [← range_any r.r.ops r.n hrl]
  rcases Nat.eq_zero_or_pos r.n with h0 | h0
  ·exact containsF_id (n := r.n) r.A r.c _ _ W 0 0 (fun h => by omega) (fun j => idC (r.r.ops.getD j rid0)) (fun j hj => by omega) (fun j hj => by omega) hrw.few (fun j hj => by omega)
  ·obtain ⟨b,p,hA,hb,hrg⟩ := rid_at hrw.row h0
   exact containsF_id (n := r.n) r.A r.c _ _ W b p (fun _ => hA) (fun j => idC (r.r.ops.getD j rid0)) (fun j hj W' hW' => hrg W' (fun a ha => hW'.cell ha) j _ (getD_of (by omega))) (fun j hj => rfl) hrw.few (fun j hj W' hW' => clos3_any y (r.r.ops.getD j rid0) w.heap.size W' (hBy.ext hW') (HY.out.ext (hEW.next hW'))))
 have HYL : Hid ((rxC y).length = 22) := hid HY.out.len
 go_enter Tryz.func83,Tryz.ntmps83
 go_upto_region 1 with fail
 obtain ⟨w1,hw1⟩ : ∃ x,x = w.alloc (.cells (rxC y).toArray 28) := ⟨_,rfl⟩
 change Code.wp _ _ _ _ (w.alloc (.cells (rxC y).toArray 28))
 rw [← hw1] at HCF ⊢
 have E1 : Hid (Ext w w1) := hid (by rw [hw1];exact (Ext.refl w).alloc _)
 have EX : Hid (Ext w1 w1) := hid (Ext.refl _)
 have BY : Blk w1 w.heap.size 28 (rxC y) := by rw [hw1];exact Blk.fresh' _ _ _ _ _ rfl rfl
 have BR : Blk w1 gr 28 (rxC r) := HB.out.ext E1.out
 obtain ⟨cy0,cy1,cy2,cy3,cy4⟩ := rev_cell BY
 obtain ⟨cr0,cr1,cr2,cr3,cr4⟩ := rev_cell BR
 rw [← hs1] at cy0;rw [← hq1] at cy1;rw [← hd1] at cy2;rw [← hwd] at cy3
 rw [← hs2] at cr0;rw [← hq2] at cr1;rw [← hAr,← hnr,← hcr] at cr4
 have cd : w1.cell? ⟨gd,0,none⟩ = some (.int .i64 day) := (HD.out.ext E1.out).cell 0
 clear hw1 cy4 cr2 cr3 hwd hs1 hs2 hq1 hq2 hd1 hmb hnr hcr hAr BY BR
 cases wd
 ·go_wp2_with fail
  go_ret
  exact ⟨by rw [HV.out];rfl,E1.out⟩
 by_cases h1 : s1 = s2
 ·have h1' : (s1 == s2) = true := beq_iff_eq.2 h1
  have h1'' := hid h1
  clear h1
  by_cases h2 : q2 < q1
  ·have h2' : decide (q2 < q1) = true := decide_eq_true h2
   by_cases h3 : d1 ≤ day
   ·have h3' : decide (d1 ≤ day) = true := decide_eq_true h3
    go_wp2_with (go_at_call 84;(with_reducible refine (HCF.out _ EX.out).mono ?_);rintro e w2 ⟨rfl,hE2⟩;have EX := hid (EX.out.next hE2);clear hE2)
    go_ret
    exact ⟨by rw [HV.out,decide_eq_true h1''.out,h2',h3'];cases mb <;> rfl,E1.out.next EX.out⟩
   ·have h3' : decide (d1 ≤ day) = false := decide_eq_false h3
    go_wp2_with (go_at_call 84;(with_reducible refine (HCF.out _ EX.out).mono ?_);rintro e w2 ⟨rfl,hE2⟩;have EX := hid (EX.out.next hE2);clear hE2)
    go_ret
    exact ⟨by rw [HV.out,h3'];cases (decide (s1 = s2)) <;> cases (decide (q2 < q1)) <;> rfl,E1.out⟩
  ·have h2' : decide (q2 < q1) = false := decide_eq_false h2
   go_wp2_with (go_at_call 84;(with_reducible refine (HCF.out _ EX.out).mono ?_);rintro e w2 ⟨rfl,hE2⟩;have EX := hid (EX.out.next hE2);clear hE2)
   go_ret
   exact ⟨by rw [HV.out,h2'];cases (decide (s1 = s2)) <;> rfl,E1.out⟩
 ·have h1' : (s1 == s2) = false := by simpa using h1
  have h1'' := hid (decide_eq_false h1)
  go_wp2_with (go_at_call 84;(with_reducible refine (HCF.out _ EX.out).mono ?_);rintro e w2 ⟨rfl,hE2⟩;have EX := hid (EX.out.next hE2);clear hE2)
  go_ret
  exact ⟨by rw [HV.out,h1''.out];rfl,E1.out⟩
def goneB (day : Int) (L : List RX) (r : Rev) : Bool := L.any fun y => wdB day y.r r
theorem range_anyX (a : List RX) (n : Nat) (h : a.length = n) (f : RX → Bool) (z : RX) : (List.range n).any (fun j => f (a.getD j z)) = a.any f := by
 rw [Bool.eq_iff_iff,List.any_eq_true,List.any_eq_true]
 constructor
 ·rintro ⟨j,hj,hf⟩
  have hj' := List.mem_range.1 hj
  refine ⟨a.getD j z,?_,hf⟩
  rw [List.getD_eq_getElem?_getD,List.getElem?_eq_getElem (by omega)]
  exact List.getElem_mem _
 ·rintro ⟨x,hx,hf⟩
  obtain ⟨j,hj,rfl⟩ := List.getElem_of_mem hx
  refine ⟨j,List.mem_range.2 (by omega),?_⟩
  rw [List.getD_eq_getElem?_getD,List.getElem?_eq_getElem hj]
  exact hf
theorem clos1_any (L : List RX) (r : RX) (day : Int) (A : Option Addr) (n c : Nat) (ga gd : Nat) (w : World) (hL : ∀ x ∈ L,RXV w x) (hr : RXV w r) (hrow : RdN w w.heap.size 22 A n (rxsC L)) (hn : n ≤ 1000000000000) (hG : Blk w ga 92 [.slice A n c]) (hD : Blk w gd 3 [.int .i64 day]) :
  Calls Tryz.prog 81 #[.agg (rxC r).toArray,.pointer (some ⟨ga,0,none⟩),.pointer (some ⟨gd,0,none⟩)] w fun e w' => e = .returned (.bool (goneB day L r.r)) ∧ Ext w w' := by
 have HL := hid hL;have HRX := hid hr;have HRW := hid hrow;have HD := hid hD;have HG := hid hG
 clear hL hr hrow hG hD
 obtain ⟨mb,hmb⟩ : ∃ x,x = goneB day L r.r := ⟨_,rfl⟩
 have HCF : Hid (∀ W,Ext (w.alloc (.cells (rxC r).toArray 28)) W → Calls Tryz.prog 82 #[.slice A n c,.func (.func 83) #[] #[.pointer (some ⟨w.heap.size,0,none⟩),.pointer (some ⟨gd,0,none⟩)]] W fun e w' => e = .returned (.bool mb) ∧ Ext W w') := hid (fun W hW => by
  have hEW : Ext w W := ((Ext.refl w).alloc _).next hW
  have hl22 : ∀ x ∈ L,(rxC x).length = 22 := fun x hx => (HL.out x hx).len
  have hrw : RdN W W.heap.size 22 A n (rxsC L) := (HRW.out.below hEW (Nat.le_refl _)).more hEW.size
  have hBr : Blk W w.heap.size 28 (rxC r) := (Blk.fresh' w 28 (rxC r) _ _ rfl rfl).ext hW
  have hDw : Blk W gd 3 [.int .i64 day] := HD.out.ext hEW
  have hrl := rx_n hrw hl22
  rw [hmb]
  unfold goneB
  rw [← range_anyX L n hrl _ r]
  have hget : ∀ j,j < n → L[j]? = some (L.getD j r) := fun j hj => by
   rw [List.getD_eq_getElem?_getD,List.getElem?_eq_getElem (by omega)];rfl
  rcases Nat.eq_zero_or_pos n with h0 | h0
  ·exact containsF_rv (n := n) A c _ _ _ W 0 0 (fun h => by omega) (fun j => rxC (L.getD j r)) (fun j hj => by omega) (fun j hj => by omega) hn (fun j hj => by omega)
  ·obtain ⟨b,p,hA,hb,hrg⟩ := rx_at hrw hl22 h0
   exact containsF_rv (n := n) A c _ _ _ W b p (fun _ => hA) (fun j => rxC (L.getD j r)) (fun j hj W' hW' => hrg W' (fun a ha => hW'.cell ha) j _ (hget j hj)) (fun j hj => hl22 _ (List.mem_of_getElem? (hget j hj))) hn (fun j hj W' hW' => clos2_any (L.getD j r) r day w.heap.size gd W' ((HL.out _ (List.mem_of_getElem? (hget j hj))).ext (hEW.next hW')) (HRX.out.ext (hEW.next hW')) (hBr.ext hW') (hDw.ext hW')))
 rw [← hmb]
 clear hmb
 go_enter Tryz.func81,Tryz.ntmps81
 go_upto_region 1 with fail
 obtain ⟨w1,hw1⟩ : ∃ x,x = w.alloc (.cells (rxC r).toArray 28) := ⟨_,rfl⟩
 change Code.wp _ _ _ _ (w.alloc (.cells (rxC r).toArray 28))
 rw [← hw1] at HCF ⊢
 have E1 : Hid (Ext w w1) := hid (by rw [hw1];exact (Ext.refl w).alloc _)
 have EX : Hid (Ext w1 w1) := hid (Ext.refl _)
 have ca : w1.cell? ⟨ga,0,none⟩ = some (.slice A n c) := (HG.out.ext E1.out).cell 0
 clear hw1
 go_wp2_with (go_at_call 82;(with_reducible refine (HCF.out _ EX.out).mono ?_);rintro e w2 ⟨rfl,hE2⟩;have EX := hid (EX.out.next hE2);clear hE2)
 go_ret
 exact ⟨rfl,E1.out.next EX.out⟩
end Go.Proofs.YtjeecfjeooehhaaGreatDoor
/- slices.Clone at IDs; the comparison of reviews; insertion sort of reviews. Conditions: the slices can be read. -/
namespace Go.Proofs.YtjeecfjeooehhaaGreatDoor
open Go.RowKit
open Lib (hid)
attribute [local go_sem ↓] wp_at_zero wp_at_succ
theorem clone_id (L : List Rid) (A : Option Addr) (n c : Nat) (w : World) (hl : RdN w w.heap.size 3 A n (idsC L)) (hn : n ≤ 1000000000000) :
  Calls Tryz.prog 41 #[.slice A n c] w fun e w' => (∃ A' c',e = .returned (.slice A' n c') ∧ w'.ownsRow w.heap.size 68 3 (.slice A' n c') n (idsC L)) ∧ Ext w w' := by
 obtain ⟨i0,hi,hz0,hz1,hz2⟩ := info_parts id_info
 have HL := hid hl
 clear hl
 have hq : ∀ a n c w,(binOp .eql 24 (.slice a n c) (.slice none 0 0)).run Tryz.prog w = .ok (.bool a.isNone) w := fun a n c w => Lib.run_eql_slice_nil w _ _ a n c 0 0 Tryz.underlying24
 rcases A with _ | a
 ·have hn0 : n = 0 := by
   rcases Nat.eq_zero_or_pos n with h | h
   ·exact h
   ·obtain ⟨b,o,h2,_⟩ := HL.out.2 h
    cases h2
  subst hn0
  have hl0 : idsC L = [] := List.eq_nil_of_length_eq_zero (by have := HL.out.1;omega)
  rw [hl0]
  go_enter Tryz.func41,Tryz.ntmps41
  go_wp2_with fail
  go_ret
  exact ⟨⟨none,0,rfl,World.ownsRow_nil _ _ _ _⟩,Ext.refl _⟩
 ·have HOL : Hid ((w.alloc (.cells #[] 68)).ownsRow w.heap.size 68 3 (.slice (some ⟨w.heap.size,0,none⟩) 0 0) 0 []) := hid (by
   have h := World.ownsRow_lit (base := w.heap.size) (size := 3) (e := 68) w #[] 0 (Nat.le_refl _) (by decide) (by simp)
   simpa using h)
  have HR : Hid (RdN (w.alloc (.cells #[] 68)) (w.alloc (.cells #[] 68)).heap.size 3 (some a) n (idsC L)) := hid ((HL.out.below ((Ext.refl w).alloc _) (Nat.le_refl _)).more ((Ext.refl w).alloc _).size)
  go_enter Tryz.func41,Tryz.ntmps41
  go_wp2_with (at_builtin;refine wpList_app rfl (.tmp 5) (.tmp 6) 24 rfl w.heap.size 68 i0 (.agg #[.int .i64 0,.int .i64 0,.int .i64 0]) 3 24 Tryz.underlying24 hi hz0 hz1 hz2 rfl (by omega) (some ⟨w.heap.size,0,none⟩) 0 0 [] rfl HOL.out (w.alloc (.cells #[] 68)).heap.size (some a) n c (idsC L) rfl HR.out (idsC_one _) (by simp only [maxLen];omega) (by omega) (by simp) ?_;rw [Nat.zero_add,List.nil_append];intro A4 c4 w4 ho4 hg4;have HO4 := hid ho4;have E4 : Hid (Ext w w4) := hid (below_app ((Ext.refl w).alloc _) hg4 HOL.out (Nat.le_refl _) (by simp));clear ho4 hg4)
  go_ret
  exact ⟨⟨A4,c4,rfl,HO4.out⟩,E4.out⟩
def kcmp (a b : Rev) : Int := orI [cmpI a.shop b.shop,cmpI a.seq b.seq]
def ltK (a b : Rev) : Prop := a.shop < b.shop ∨ a.shop = b.shop ∧ a.seq < b.seq
theorem kcmp_lt (a b : Rev) : (kcmp a b < 0) ↔ ltK a b := by
 have e2 : ∀ x y : Int,orI [x,y] = if x ≠ 0 then x else y := fun x y => by
  have h := orI3 x y 0
  have h2 : orI [x,y,0] = orI [x,y] := by
   unfold orI
   by_cases hx : x = 0 <;> by_cases hy : y = 0 <;> simp [hx,hy]
  rw [← h2,h]
  split
  ·rfl
  ·split
   ·rfl
   ·rename_i h;simp only [ne_eq,Decidable.not_not] at h;exact h.symm
 unfold kcmp ltK
 rw [e2]
 unfold cmpI
 split <;> (repeat' split) <;> omega
theorem cmpR_any (a b : RX) (w : World) (ha : (rxC a).length = 22) (hb : (rxC b).length = 22) :
  Calls Tryz.prog 88 #[.agg (rxC a).toArray,.agg (rxC b).toArray] w fun e w' => e = .returned (.int .i64 (kcmp a.r b.r)) ∧ Ext w w' := by
 obtain ⟨V,hV⟩ : ∃ v,v = kcmp a.r b.r := ⟨_,rfl⟩
 obtain ⟨s,hs⟩ : ∃ x,x = a.r.shop := ⟨_,rfl⟩
 obtain ⟨q,hq⟩ : ∃ x,x = a.r.seq := ⟨_,rfl⟩
 obtain ⟨s',hs'⟩ : ∃ x,x = b.r.shop := ⟨_,rfl⟩
 obtain ⟨q',hq'⟩ : ∃ x,x = b.r.seq := ⟨_,rfl⟩
 obtain ⟨c1,hc1⟩ : ∃ c,c = cmpI s s' := ⟨_,rfl⟩
 obtain ⟨c2,hc2⟩ : ∃ c,c = cmpI q q' := ⟨_,rfl⟩
 have H1 : Hid (∀ W,Calls Tryz.prog 90 #[.int .i64 s,.int .i64 s'] W fun e w' => e = .returned (.int .i64 c1) ∧ W = w') := hid (fun W => by rw [hc1];exact compare_any s s' W)
 have H2 : Hid (∀ W,Calls Tryz.prog 90 #[.int .i64 q,.int .i64 q'] W fun e w' => e = .returned (.int .i64 c2) ∧ W = w') := hid (fun W => by rw [hc2];exact compare_any q q' W)
 have HV : Hid (V = orI [c1,c2]) := hid (by rw [hV,hc1,hc2,hs,hs',hq,hq'];rfl)
 rw [← hV]
 go_enter Tryz.func88,Tryz.ntmps88
 go_upto_region 1 with fail
 obtain ⟨w2,hw2⟩ : ∃ x,x = (w.alloc (.cells (rxC a).toArray 28)).alloc (.cells (rxC b).toArray 28) := ⟨_,rfl⟩
 change Code.wp _ _ _ _ ((w.alloc (.cells (rxC a).toArray 28)).alloc (.cells (rxC b).toArray 28))
 rw [← hw2]
 have E2 : Hid (Ext w w2) := hid (by rw [hw2];exact ((Ext.refl w).alloc _).alloc _)
 have BA : Hid (Blk w2 w.heap.size 28 (rxC a)) := hid (by rw [hw2];exact (Blk.fresh' _ _ _ _ _ rfl rfl).alloc _)
 have BB : Hid (Blk w2 (w.heap.size + 1) 28 (rxC b)) := hid (by rw [hw2];exact Blk.fresh' _ _ _ _ _ rfl (by simp))
 have HA0 : Hid ((rxC a)[0]? = some (.int .i64 s) ∧ (rxC a)[1]? = some (.int .i64 q)) := hid (by rw [hs,hq];exact ⟨rfl,rfl⟩)
 have HB0 : Hid ((rxC b)[0]? = some (.int .i64 s') ∧ (rxC b)[1]? = some (.int .i64 q')) := hid (by rw [hs',hq'];exact ⟨rfl,rfl⟩)
 clear hw2 hV hc1 hc2 hs hq hs' hq' ha hb
 refine wp_region_flowF 12 ?FW1 (fun us => ?_) (by kernel_rfl) (by kernel_rfl) (fun a b => Ext a b) Ext.refl (fun h1 h2 => h1.next h2) (fun i v W => match i with
  | 0 => v = .pointer (some ⟨w.heap.size,0,none⟩)
  | 1 => v = .int .i64 s
  | 2 => v = .pointer (some ⟨w.heap.size + 1,0,none⟩)
  | 3 => v = .int .i64 s'
  | 4 => v = .int .i64 c1
  | 5 => v = .pointer (some ⟨w.heap.size,1,none⟩)
  | 6 => v = .int .i64 q
  | 7 => v = .pointer (some ⟨w.heap.size + 1,1,none⟩)
  | 8 => v = .int .i64 q'
  | 9 => v = .int .i64 c2
  | 10 => ∃ g,v = .slice (some ⟨g,0,none⟩) 2 2 ∧ Rd W W.heap.size (some ⟨g,0,none⟩) 2 ([c1,c2].map (Value.int .i64))
  | 11 => v = .int .i64 V
  | _ => True) ?_ ?_
 case refine_1 =>
  simp only [List.take_succ_cons,List.take_zero,flowAct,Nat.zero_add,Nat.reduceAdd,Act.put,List.setIfInBounds_toArray,List.set_cons_succ,List.set_cons_zero]
  rfl
 ·simp only [List.take_succ_cons,List.take_zero,flowStepsF]
  refine ⟨?_,?_,?_,?_,?_,?_,?_,?_,?_,?_,?_,?_,trivial⟩
  ·intro us W K hE hd hK
   dsimp only at hK ⊢
   have HK := hid hK;have HE := hid hE
   clear hK hd hE
   go_wp2_with fail
   exact K_at (HK.out (.pointer (some ⟨w.heap.size,0,none⟩)) W (fun _ _ => rfl) (Ext.refl W)) (by kernel_rfl)
  ·intro us W K hE hd hK
   have d0 := hd 0 (by kernel_rfl)
   have xk : W.cell? ⟨w.heap.size,0,none⟩ = some (.int .i64 s) := ((BA.out.ext (sg_undrew hE)).cell 0).trans HA0.out.1
   dsimp only at hK ⊢
   rw [d0] at hK ⊢
   have HK := hid hK;have HE := hid hE
   clear hK hd hE d0
   go_wp2_with fail
   exact K_at (HK.out (.int .i64 s) W (fun _ _ => rfl) (Ext.refl W)) (by kernel_rfl)
  ·intro us W K hE hd hK
   dsimp only at hK ⊢
   have HK := hid hK;have HE := hid hE
   clear hK hd hE
   go_wp2_with fail
   exact K_at (HK.out (.pointer (some ⟨w.heap.size + 1,0,none⟩)) W (fun _ _ => rfl) (Ext.refl W)) (by kernel_rfl)
  ·intro us W K hE hd hK
   have d2 := hd 2 (by kernel_rfl)
   have xk : W.cell? ⟨w.heap.size + 1,0,none⟩ = some (.int .i64 s') := ((BB.out.ext (sg_undrew hE)).cell 0).trans HB0.out.1
   dsimp only at hK ⊢
   rw [d2] at hK ⊢
   have HK := hid hK;have HE := hid hE
   clear hK hd hE d2
   go_wp2_with fail
   exact K_at (HK.out (.int .i64 s') W (fun _ _ => rfl) (Ext.refl W)) (by kernel_rfl)
  ·intro us W K hE hd hK
   have d1 := hd 1 (by kernel_rfl)
   have d3 := hd 3 (by kernel_rfl)
   dsimp only at hK ⊢
   rw [d1,d3] at hK ⊢
   have HK := hid hK;have HE := hid hE
   clear hK hd hE d1 d3
   go_wp2_with ((go_at_call 90;(with_reducible refine (H1.out W).mono ?_);rintro e w6 ⟨rfl,rfl⟩))
   exact K_at (HK.out (.int .i64 c1) W (fun _ _ => rfl) (Ext.refl W)) (by kernel_rfl)
  ·intro us W K hE hd hK
   dsimp only at hK ⊢
   have HK := hid hK;have HE := hid hE
   clear hK hd hE
   go_wp2_with fail
   exact K_at (HK.out (.pointer (some ⟨w.heap.size,1,none⟩)) W (fun _ _ => rfl) (Ext.refl W)) (by kernel_rfl)
  ·intro us W K hE hd hK
   have d5 := hd 5 (by kernel_rfl)
   have xk : W.cell? ⟨w.heap.size,1,none⟩ = some (.int .i64 q) := ((BA.out.ext (sg_undrew hE)).cell 1).trans HA0.out.2
   dsimp only at hK ⊢
   rw [d5] at hK ⊢
   have HK := hid hK;have HE := hid hE
   clear hK hd hE d5
   go_wp2_with fail
   exact K_at (HK.out (.int .i64 q) W (fun _ _ => rfl) (Ext.refl W)) (by kernel_rfl)
  ·intro us W K hE hd hK
   dsimp only at hK ⊢
   have HK := hid hK;have HE := hid hE
   clear hK hd hE
   go_wp2_with fail
   exact K_at (HK.out (.pointer (some ⟨w.heap.size + 1,1,none⟩)) W (fun _ _ => rfl) (Ext.refl W)) (by kernel_rfl)
  ·intro us W K hE hd hK
   have d7 := hd 7 (by kernel_rfl)
   have xk : W.cell? ⟨w.heap.size + 1,1,none⟩ = some (.int .i64 q') := ((BB.out.ext (sg_undrew hE)).cell 1).trans HB0.out.2
   dsimp only at hK ⊢
   rw [d7] at hK ⊢
   have HK := hid hK;have HE := hid hE
   clear hK hd hE d7
   go_wp2_with fail
   exact K_at (HK.out (.int .i64 q') W (fun _ _ => rfl) (Ext.refl W)) (by kernel_rfl)
  ·intro us W K hE hd hK
   have d6 := hd 6 (by kernel_rfl)
   have d8 := hd 8 (by kernel_rfl)
   dsimp only at hK ⊢
   rw [d6,d8] at hK ⊢
   have HK := hid hK;have HE := hid hE
   clear hK hd hE d6 d8
   go_wp2_with ((go_at_call 90;(with_reducible refine (H2.out W).mono ?_);rintro e w6 ⟨rfl,rfl⟩))
   exact K_at (HK.out (.int .i64 c2) W (fun _ _ => rfl) (Ext.refl W)) (by kernel_rfl)
  ·intro us W K hE hd hK
   have d4 := hd 4 (by kernel_rfl)
   have d9 := hd 9 (by kernel_rfl)
   dsimp only at hK ⊢
   rw [d4,d9] at hK ⊢
   have HK := hid hK;have HE := hid hE
   clear hK hd hE d4 d9
   go_wp2_with fail
   exact K_at (HK.out (.slice (some ⟨W.heap.size,0,none⟩) 2 2) _ (fun W2 hW2 => ⟨W.heap.size,rfl,((Blk.fresh W 3 [.int .i64 c1,.int .i64 c2]).rd rfl).ext' hW2⟩) ((Ext.refl W).alloc _)) (by kernel_rfl)
  ·intro us W K hE hd hK
   obtain ⟨g,d10,hr⟩ := hd 10 (by kernel_rfl)
   have RR := hid (or_any [c1,c2] _ 2 2 W hr (by decide))
   rw [← HV.out] at RR
   clear hr
   dsimp only at hK ⊢
   rw [d10] at hK ⊢
   have HK := hid hK;have HE := hid hE
   clear hK hd hE d10
   go_wp2_with ((go_at_call 89;(with_reducible refine RR.out.mono ?_);rintro e w6 ⟨rfl,rfl⟩))
   exact K_at (HK.out (.int .i64 V) W (fun _ _ => rfl) (Ext.refl W)) (by kernel_rfl)
 ·intro us W hE hd
  try dsimp only
  have d11 := hd 11 (by decide)
  simp only [List.drop_succ_cons,List.drop_zero]
  rw [d11]
  have EW := hid (E2.out.next (sg_undrew hE))
  clear hd hE d11
  go_wp2_with fail
  go_ret
  exact ⟨rfl,EW.out⟩
end Go.Proofs.YtjeecfjeooehhaaGreatDoor
