/- Package patch: what a patch creates; Encode. Conditions: PatV, PatW. -/
import Derived.Test.YtojcmcccahjphaaGreatDoorM18
import Derived.Test.YtojcmcccahjphaaGreatDoorM13
import Derived.Test.YtojcmcccahjphaaGreatDoorM4
set_option linter.unusedSimpArgs false
set_option linter.unusedVariables false
set_option maxHeartbeats 16000000
set_option maxRecDepth 100000
set_option maxRecDepth 100000
set_option maxHeartbeats 16000000
namespace Go.Proofs.YtojcmcccahjphaaGreatDoor
open Go.RowKit
open Lib (hid)
attribute [local go_sem ↓] wp_at_zero wp_at_succ
theorem index_ints (l : List Int) (k : Int) (A : Option Addr) (n c : Nat) (w : World) (hl : Rd w w.heap.size A n (l.map (Value.int .i64))) (hn : n ≤ 1000000) : Calls Tryz.prog 76 #[.slice A n c,.int .i64 k] w fun e w' => (∃ r : Int,e = .returned (.int .i64 r) ∧ decide (0 ≤ r) = l.contains k) ∧ w = w' := by
 have HL := hid hl
 have HLN : Hid (l.length = n) := hid (by have := hl.1;simpa using this)
 clear hl
 go_enter Tryz.func76,Tryz.ntmps76
 go_wp2_with fail
 go_loopw [5,8] (fun _ s8 wr => ∃ t : Nat,t ≤ n ∧ s8 = .int .i64 (t : Int) ∧ Hid (∀ j y,j < t → l[j]? = some y → y ≠ k) ∧ w = wr) (fun _ s8 _ => n - (intOf s8).toNat)
 case atStart => exact ⟨0,Nat.zero_le _,rfl,hid (fun j y h => absurd h (Nat.not_lt_zero _)),rfl⟩
 case round =>
  obtain ⟨t,ht,rfl,HALL,rfl⟩ := hrel
  by_cases hlt : t < n
  ·obtain ⟨b,o,hA,hb,hc⟩ := HL.out.2 (by omega)
   subst hA
   obtain ⟨y,hy⟩ : ∃ y,l[t]? = some y := ⟨_,List.getElem?_eq_getElem (by rw [HLN.out];exact hlt)⟩
   have cy : w.cell? ⟨b,o + t,none⟩ = some (.int .i64 y) := hc t _ (by rw [List.getElem?_map,hy];rfl)
   have HY := hid hy
   clear hc hy hb
   by_cases he : k = y
   ·subst he
    have HQ : Hid (decide (0 ≤ (t : Int)) = l.contains k) := hid (by
     rw [decide_eq_true (by omega : 0 ≤ (t : Int))]
     exact (List.contains_iff_mem.2 (List.mem_of_getElem? HY.out)).symm)
    go_wp2_with fail
    go_ret
    exact ⟨⟨_,rfl,HQ.out⟩,rfl⟩
   ·have he1 : (k == y) = false := beq_eq_false_iff_ne.2 he
    have HNE : Hid (k ≠ y) := hid he
    clear he
    go_wp2_with fail
    go_roundw
    case rel => exact ⟨t + 1,by omega,by go_num,hid (fun j z hj hz => by
     rcases Nat.lt_or_ge j t with h | h
     ·exact HALL.out j z h hz
     ·obtain rfl : j = t := by omega
      rw [HY.out] at hz
      rw [← Option.some.inj hz]
      exact fun h => HNE.out h.symm),trivial⟩
    case measure => simp [intOf];omega
  ·obtain rfl : t = n := by omega
   have HQ : Hid (decide (0 ≤ (-1 : Int)) = l.contains k) := hid (by
    rw [decide_eq_false (by omega : ¬ 0 ≤ (-1 : Int)),eq_comm,Bool.eq_false_iff]
    intro h
    obtain ⟨j,hj,he⟩ := List.getElem_of_mem (List.contains_iff_mem.1 h)
    exact HALL.out j _ (by rw [HLN.out] at hj;exact hj) (List.getElem?_eq_getElem hj) he)
   go_wp2_with fail
   go_ret
   exact ⟨⟨_,rfl,HQ.out⟩,rfl⟩
theorem contains_ints (l : List Int) (k : Int) (A : Option Addr) (n c : Nat) (w : World) (hl : Rd w w.heap.size A n (l.map (Value.int .i64))) (hn : n ≤ 1000000) : Calls Tryz.prog 43 #[.slice A n c,.int .i64 k] w fun e w' => e = .returned (.bool (l.contains k)) ∧ w = w' := by
 have HI := hid (index_ints l k A n c w hl hn)
 clear hl
 go_enter Tryz.func43,Tryz.ntmps43
 go_wp2_with (go_at_call 76;(with_reducible refine HI.out.mono ?_);rintro e w2 ⟨⟨r,rfl,hr⟩,rfl⟩;have HR := hid hr;clear hr)
 go_ret
 exact ⟨by rw [← HR.out];rfl,rfl⟩
def madeK (k : Int) : Bool := [0,2,3,4].contains k
def crsO (shop seq : Int) (L : List OpA) (i : Nat) : List Rid := match L[i]? with
 | some o => if madeK o.k then [⟨shop,seq,(i : Int)⟩] else []
 | none => []
def crs (shop seq : Int) (L : List OpA) (t : Nat) : List Rid := (List.range t).flatMap (crsO shop seq L)
theorem crs_succ (shop seq : Int) (L : List OpA) (t : Nat) : crs shop seq L (t + 1) = crs shop seq L t ++ crsO shop seq L t := by
 unfold crs
 rw [List.range_succ,List.flatMap_append]
 simp
theorem crs_le (shop seq : Int) (L : List OpA) (t : Nat) : (crs shop seq L t).length ≤ t := by
 induction t with
 | zero => exact Nat.le_refl _
 | succ t ih =>
  have h : (crsO shop seq L t).length ≤ 1 := by
   unfold crsO
   split
   ·split
    ·exact Nat.le_refl _
    ·exact Nat.zero_le _
   ·exact Nat.zero_le _
  rw [crs_succ,List.length_append]
  omega
def creP (p : PatA) : List Rid := crs p.shop p.seq p.ops p.ops.length
theorem own_mono {w : World} {base base' : Nat} {e : TypeId} {size n : Nat} {v : Value} {xs : List Value} (h : w.ownsRow base e size v n xs) (hb : base' ≤ base) : w.ownsRow base' e size v n xs :=
 ⟨h.1,h.2.imp id fun ⟨g,cap,cur,h1,h2,h3⟩ => ⟨g,cap,cur,h1,Nat.le_trans hb h2,h3⟩⟩
theorem made_rd (w : World) : Rd (w.alloc (.cells #[.int .i64 0,.int .i64 2,.int .i64 3,.int .i64 4] 3)) (w.alloc (.cells #[.int .i64 0,.int .i64 2,.int .i64 3,.int .i64 4] 3)).heap.size (some ⟨w.heap.size,0,none⟩) 4 (([0,2,3,4] : List Int).map (Value.int .i64)) := (Blk.fresh' w 3 _ _ _ rfl rfl : Blk _ w.heap.size 3 (([0,2,3,4] : List Int).map (Value.int .i64))).rd rfl
theorem pcreates_any (p : PatA) (cs : List Value) (w : World) (hp : PatV w p cs) : Calls Tryz.prog 19 #[.agg cs.toArray] w fun e w' => (∃ A c,e = .returned (.slice A (creP p).length c) ∧ w'.ownsRow w.heap.size 23 3 (.slice A (creP p).length c) (creP p).length (idsC (creP p))) ∧ Ext w w' := by
 obtain ⟨i0,hi,hz0,hz1,hz2⟩ := info_parts id_info
 obtain ⟨X,A,n,c,B,m,d,rfl,hS⟩ := hp
 have hmf := hS.ofew;have hmd := hS.ole
 have HLM : Hid (p.ops.length = m) := hid hS.len.2.2
 have HOX : Hid (∀ q : Nat,q < m → ∃ (b o : Nat) (x : OX),B = some ⟨b,o,none⟩ ∧ p.ops[q]? = some x.o ∧ x.cs.length = 28 ∧ (∀ v ∈ x.cs,v.oneCell' = true) ∧ (∀ W,Ext w W → W.rangeAt b (o + q * 28) x.cs) ∧ x.cs[0]? = some (.int .i64 x.o.k)) := hid (fun q hq => by
  obtain ⟨b,o,x,h1,_,h2,h3,h4,h5,h6⟩ := op_at hS q hq
  obtain ⟨t,nd,A',n',c',h7,_⟩ := h6 w (Ext.refl w)
  exact ⟨b,o,x,h1,h2,h3,h4,h5,by rw [h7];rfl⟩)
 clear hS
 obtain ⟨shop,seq,day,needs,clause,ops,sl⟩ := p
 unfold creP patCl
 dsimp only at HLM HOX ⊢
 rw [HLM.out]
 obtain ⟨w1,hw1⟩ : ∃ x,x = w.alloc (.cells #[.int .i64 shop,.int .i64 seq,.int .i64 day,.slice A n c,.int .i64 clause,.slice B m d,.string sl] 37) := ⟨_,rfl⟩
 have E1 : Hid (Ext w w1) := hid (by rw [hw1];exact (Ext.refl w).alloc _)
 obtain ⟨g,hg⟩ : ∃ g,g = w.heap.size := ⟨_,rfl⟩
 have B1 : Hid (Blk w1 g 37 [.int .i64 shop,.int .i64 seq,.int .i64 day,.slice A n c,.int .i64 clause,.slice B m d,.string sl]) := hid (by rw [hw1,hg];exact Blk.fresh' _ _ _ _ _ rfl rfl)
 go_enter Tryz.func19,Tryz.ntmps19
 go_upto_region 1 with fail
 change Code.wp _ _ _ _ (w.alloc (.cells #[.int .i64 shop,.int .i64 seq,.int .i64 day,.slice A n c,.int .i64 clause,.slice B m d,.string sl] 37))
 rw [← hw1]
 rw [← hg]
 have HG := hid hg
 clear hw1 hg
 have c5 : w1.cell? ⟨g,5,none⟩ = some (.slice B m d) := B1.out.cell 5
 go_wp2_with fail
 clear c5
 go_loopw [3,4,5,9] (fun s3 _ _ s9 wr => ∃ (t : Nat) (A' : Option Addr) (c' : Nat),t ≤ m ∧ s9 = .int .i64 (t : Int) ∧ s3 = .slice A' (crs shop seq ops t).length c' ∧ wr.ownsRow w1.heap.size 23 3 (.slice A' (crs shop seq ops t).length c') (crs shop seq ops t).length (idsC (crs shop seq ops t)) ∧ Ext w1 wr) (fun _ _ _ s9 _ => m - (intOf s9).toNat)
 case atStart => exact ⟨0,none,0,Nat.zero_le _,rfl,rfl,World.ownsRow_nil _ _ _ _,Ext.refl _⟩
 case round =>
  obtain ⟨t,A',c',ht,rfl,rfl,hO,hE⟩ := hrel
  obtain ⟨wi,rfl⟩ : ∃ x : World,x = wr := ⟨_,rfl⟩
  have OI := hid hO;have EI := hid hE
  clear hO hE
  by_cases hlt : t < m
  ·obtain ⟨b,o,⟨x,ds⟩,hB,hget,hl,hone,hrg,h0⟩ := HOX.out t hlt
   subst hB
   dsimp only at hget hl hone hrg h0
   have HRG := hid (hrg wi (E1.out.next EI.out))
   have HL := hid hl;have HONE := hid hone;have H0 := hid h0
   have HCS : Hid (crs shop seq ops (t + 1) = crs shop seq ops t ++ (if madeK x.k then [⟨shop,seq,(t : Int)⟩] else [])) := hid (by rw [crs_succ];unfold crsO;rw [hget])
   have hld := hl
   have HCT : Hid (∀ W : World,Calls Tryz.prog 43 #[.slice (some ⟨W.heap.size,0,none⟩) 4 4,.int .i64 x.k] (W.alloc (.cells #[.int .i64 0,.int .i64 2,.int .i64 3,.int .i64 4] 3)) fun e w' => e = .returned (.bool (madeK x.k)) ∧ (W.alloc (.cells #[.int .i64 0,.int .i64 2,.int .i64 3,.int .i64 4] 3)) = w') := hid (fun W => contains_ints [0,2,3,4] x.k _ 4 4 _ (made_rd W) (by decide))
   obtain ⟨mb,hmb⟩ : ∃ z,z = madeK x.k := ⟨_,rfl⟩
   rw [← hmb] at HCT HCS
   obtain ⟨N,hN⟩ : ∃ z,z = crs shop seq ops t := ⟨_,rfl⟩
   have hkl : N.length ≤ 1000000 := by rw [hN];have := crs_le shop seq ops t;omega
   rw [← hN] at OI HCS ⊢
   have HKL := hid hkl
   clear hget hl hone hrg h0 hmb hN hkl
   cases mb
   ·have HCE : Hid (crs shop seq ops (t + 1) = N) := hid (by rw [HCS.out];simp)
    clear HCS
    go_wp2_with (first
     | ((with_reducible refine wpList_load_row 33 b (o + t * 28) ds HRG.out Tryz.underlying33 rfl (op_info.trans (congrArg some HL.out.symm)) ?_ ?_ ?_);kernel_rfl;rfl)
     | (refine wpList_store_freshw rfl 33 (.tmp 5) (.tmp 13) rfl wi.heap.size rfl [.int .i64 0,.int .i64 0,.int .i64 0,.int .i64 0,.int .i64 0,.int .i64 0,.int .i64 0,.int .i64 0,.int .i64 0,.string ⟨#[]⟩,.int .i64 0,.int .i64 0,.int .i64 0,.int .i64 0,.slice none 0 0,.int .i64 0,.int .i64 0,.int .i64 0,.int .i64 0,.int .i64 0,.int .i64 0,.int .i64 0,.int .i64 0,.int .i64 0,.slice none 0 0,.slice none 0 0,.slice none 0 0,.slice none 0 0] ds 33 (by kernel_rfl) (by kernel_rfl) (op_info.trans (congrArg some HL.out.symm)) (Eq.trans (b := 28) rfl HL.out.symm) HONE.out ?_;intro w5 hw5 hE5 hz5;have B5 := hid hw5;have E5 := hid hE5;have cO : (w5.alloc (.cells #[.int .i64 0,.int .i64 2,.int .i64 3,.int .i64 4] 3)).cell? ⟨wi.heap.size,0,none⟩ = some (.int .i64 x.k) := ((hw5.ext ((Ext.refl w5).alloc _)).cell 0).trans H0.out;have B56 := hid (B1.out.ext ((EI.out.next hE5).alloc (.cells #[.int .i64 0,.int .i64 2,.int .i64 3,.int .i64 4] 3)));have cS : (w5.alloc (.cells #[.int .i64 0,.int .i64 2,.int .i64 3,.int .i64 4] 3)).cell? ⟨g,0,none⟩ = some (.int .i64 shop) := B56.out.cell 0;have cQ : (w5.alloc (.cells #[.int .i64 0,.int .i64 2,.int .i64 3,.int .i64 4] 3)).cell? ⟨g,1,none⟩ = some (.int .i64 seq) := B56.out.cell 1;have E56 : Hid (Ext w1 (w5.alloc (.cells #[.int .i64 0,.int .i64 2,.int .i64 3,.int .i64 4] 3))) := hid ((EI.out.next hE5).alloc _);have O5 := hid (own_below (own_below OI.out hE5) ((Ext.refl w5).alloc (.cells #[.int .i64 0,.int .i64 2,.int .i64 3,.int .i64 4] 3)));clear hw5 hE5 hz5)
     | (go_at_call 43;(with_reducible refine (HCT.out w5).mono ?_);rintro e w6 ⟨rfl,rfl⟩))
    go_roundw
    case rel => exact ⟨t + 1,A',c',by omega,by go_num,by rw [HCE.out],by rw [HCE.out];exact O5.out,E56.out⟩
    case measure => simp [intOf];omega
   ·have HCE : Hid (crs shop seq ops (t + 1) = N ++ [⟨shop,seq,(t : Int)⟩]) := hid (by rw [HCS.out];simp)
    clear HCS
    go_wp2_with (first
     | ((with_reducible refine wpList_load_row 33 b (o + t * 28) ds HRG.out Tryz.underlying33 rfl (op_info.trans (congrArg some HL.out.symm)) ?_ ?_ ?_);kernel_rfl;rfl)
     | (refine wpList_store_freshw rfl 33 (.tmp 5) (.tmp 13) rfl wi.heap.size rfl [.int .i64 0,.int .i64 0,.int .i64 0,.int .i64 0,.int .i64 0,.int .i64 0,.int .i64 0,.int .i64 0,.int .i64 0,.string ⟨#[]⟩,.int .i64 0,.int .i64 0,.int .i64 0,.int .i64 0,.slice none 0 0,.int .i64 0,.int .i64 0,.int .i64 0,.int .i64 0,.int .i64 0,.int .i64 0,.int .i64 0,.int .i64 0,.int .i64 0,.slice none 0 0,.slice none 0 0,.slice none 0 0,.slice none 0 0] ds 33 (by kernel_rfl) (by kernel_rfl) (op_info.trans (congrArg some HL.out.symm)) (Eq.trans (b := 28) rfl HL.out.symm) HONE.out ?_;intro w5 hw5 hE5 hz5;have B5 := hid hw5;have E5 := hid hE5;have cO : (w5.alloc (.cells #[.int .i64 0,.int .i64 2,.int .i64 3,.int .i64 4] 3)).cell? ⟨wi.heap.size,0,none⟩ = some (.int .i64 x.k) := ((hw5.ext ((Ext.refl w5).alloc _)).cell 0).trans H0.out;have B56 := hid (B1.out.ext ((EI.out.next hE5).alloc (.cells #[.int .i64 0,.int .i64 2,.int .i64 3,.int .i64 4] 3)));have cS : (w5.alloc (.cells #[.int .i64 0,.int .i64 2,.int .i64 3,.int .i64 4] 3)).cell? ⟨g,0,none⟩ = some (.int .i64 shop) := B56.out.cell 0;have cQ : (w5.alloc (.cells #[.int .i64 0,.int .i64 2,.int .i64 3,.int .i64 4] 3)).cell? ⟨g,1,none⟩ = some (.int .i64 seq) := B56.out.cell 1;have E56 : Hid (Ext w1 (w5.alloc (.cells #[.int .i64 0,.int .i64 2,.int .i64 3,.int .i64 4] 3))) := hid ((EI.out.next hE5).alloc _);have O5 := hid (own_below (own_below OI.out hE5) ((Ext.refl w5).alloc (.cells #[.int .i64 0,.int .i64 2,.int .i64 3,.int .i64 4] 3)));clear hw5 hE5 hz5)
     | (go_at_call 43;(with_reducible refine (HCT.out w5).mono ?_);rintro e w6 ⟨rfl,rfl⟩)
     | (at_builtin;refine wpList_app rfl (.tmp 18) (.tmp 25) 27 rfl w1.heap.size 23 i0 (.agg #[.int .i64 0,.int .i64 0,.int .i64 0]) 3 24 Tryz.underlying27 hi hz0 hz1 hz2 rfl (by decide) A' N.length c' _ rfl (O5.out.alloc _) _ (some ⟨w5.heap.size + 1,0,none⟩) 1 1 (idsC [⟨shop,seq,(t : Int)⟩]) rfl (RdN.fresh (W := (w5.alloc (.cells #[.int .i64 0,.int .i64 2,.int .i64 3,.int .i64 4] 3))) (e := 23) (idsC [⟨shop,seq,(t : Int)⟩]) _ (w5.heap.size + 1) 3 1 rfl (by simp) rfl) (idsC_one _) (by have := HKL.out;simp only [maxLen];omega) (by have := HKL.out;omega) (by have := (EI.out.next E5.out).size;simp;omega) ?_;intro A7 c7 w7 o7 g7;have O7 := hid o7;have X7 : Hid (Ext w1 w7) := hid (below_app (E56.out.alloc _) g7 (O5.out.alloc _) (Nat.le_refl _) (by have := (EI.out.next E5.out).size;simp;omega));clear o7 g7))
    go_roundw
    case rel => exact ⟨t + 1,A7,c7,by omega,by go_num,by rw [HCE.out,List.length_append];rfl,by rw [HCE.out,List.length_append,show idsC (N ++ [⟨shop,seq,(t : Int)⟩]) = idsC N ++ idsC [⟨shop,seq,(t : Int)⟩] by simp [idsC]];exact O7.out,X7.out⟩
    case measure => simp [intOf];omega
  ·obtain rfl : t = m := by omega
   go_wp2_with fail
   go_ret
   exact ⟨⟨A',c',rfl,own_mono OI.out (E1.out.size)⟩,E1.out.next EI.out⟩
end Go.Proofs.YtojcmcccahjphaaGreatDoor
/- The reference of package patch: lists in lists. Conditions: a small number. -/
set_option maxRecDepth 100000
set_option maxHeartbeats 16000000
namespace Go.Proofs.YtojcmcccahjphaaGreatDoor
open Go.RowKit
open Lib (hid)
attribute [local go_sem ↓] wp_at_zero wp_at_succ
def TyP (p : Nat → Prop) (w : World) : List TyN → List Value → Prop
 | [],_ => False
 | [x],cs => ∃ (A : Option Addr) (c : Nat),cs = tyC x (.slice A 0 c) ∧ c ≤ 9223372036854775807
 | x :: y :: r,cs => ∃ (b o c : Nat) (ds : List Value),cs = tyC x (.slice (some ⟨b,o,none⟩) 1 c) ∧ 1 ≤ c ∧ c ≤ 9223372036854775807 ∧ p b ∧ b < w.heap.size ∧ ds.length = 5 ∧ (∀ j u,ds[j]? = some u → w.cell? ⟨b,o + j,none⟩ = some u) ∧ TyP p w (y :: r) ds
theorem TyP.tyV {p : Nat → Prop} {w : World} : ∀ {t : List TyN} {cs : List Value},TyP p w t cs → TyV w t cs
 | [],_,h => h
 | [x],_,h => h
 | x :: y :: r,_,⟨b,o,c,ds,h1,h2,h3,_,h5,h6,h7,h8⟩ => ⟨_,c,ds,h1,h2,h3,⟨by omega,fun _ => ⟨b,o,rfl,h5,h7⟩⟩,TyP.tyV h8⟩
theorem TyP.keep {p : Nat → Prop} {w w' : World} (hs : w.heap.size ≤ w'.heap.size) (hk : ∀ b,p b → b < w.heap.size → w'.heap[b]? = w.heap[b]?) : ∀ {t : List TyN} {cs : List Value},TyP p w t cs → TyP p w' t cs
 | [],_,h => h
 | [x],_,h => h
 | x :: y :: r,_,⟨b,o,c,ds,h1,h2,h3,h4,h5,h6,h7,h8⟩ => ⟨b,o,c,ds,h1,h2,h3,h4,Nat.lt_of_lt_of_le h5 hs,h6,fun j u hu => (World.cell?_of_block (a := ⟨b,o + j,none⟩) (hk b h4 h5)).trans (h7 j u hu),TyP.keep hs hk h8⟩
theorem TyP.mono {p q : Nat → Prop} {w : World} (hp : ∀ b,b < w.heap.size → p b → q b) : ∀ {t : List TyN} {cs : List Value},TyP p w t cs → TyP q w t cs
 | [],_,h => h
 | [x],_,h => h
 | x :: y :: r,_,⟨b,o,c,ds,h1,h2,h3,h4,h5,h6,h7,h8⟩ => ⟨b,o,c,ds,h1,h2,h3,hp b h5 h4,h5,h6,h7,TyP.mono hp h8⟩
theorem i64_ty (k : Int) (h0 : 0 ≤ k) (h1 : k ≤ 100) : i64 (⟨k,⟨0,0,0⟩⟩ : TyN).k ∧ i64 (⟨k,⟨0,0,0⟩⟩ : TyN).d.s ∧ i64 (⟨k,⟨0,0,0⟩⟩ : TyN).d.q ∧ i64 (⟨k,⟨0,0,0⟩⟩ : TyN).d.i := by
 refine ⟨?_,?_,?_,?_⟩ <;> (unfold i64;dsimp only;omega)
theorem TyP.cons {p : Nat → Prop} {w : World} {x : TyN} {t : List TyN} {ds : List Value} (h : TyP p w t ds) (b o c : Nat) (h1 : 1 ≤ c) (h2 : c ≤ 9223372036854775807) (hp : p b) (hb : b < w.heap.size) (hc : ∀ j u,ds[j]? = some u → w.cell? ⟨b,o + j,none⟩ = some u) : TyP p w (x :: t) (tyC x (.slice (some ⟨b,o,none⟩) 1 c)) := by
 cases t with
 | nil => exact h.elim
 | cons y r => exact ⟨b,o,c,ds,rfl,h1,h2,hp,hb,h.tyV.len,hc,h⟩
theorem deep_any (n : Int) (w : World) (h0 : 0 ≤ n) (h1 : n ≤ 1000) : Calls Tryz.prog 9 #[.int .i64 n] w fun e w' => (∃ t cs,e = .returned (.agg cs.toArray) ∧ TyP (fun b => w.heap.size ≤ b) w' t cs ∧ TyW t ∧ t.length ≤ 1001) ∧ Ext w w' := by
 have E0 : Hid (Ext w (w.alloc (.cells #[.int .i64 0,.int .i64 0,.int .i64 0,.int .i64 0,.slice none 0 0] 26))) := hid ((Ext.refl w).alloc _)
 have B0 : Hid (Blk (w.alloc (.cells #[.int .i64 0,.int .i64 0,.int .i64 0,.int .i64 0,.slice none 0 0] 26)) w.heap.size 26 [.int .i64 0,.int .i64 0,.int .i64 0,.int .i64 0,.slice none 0 0]) := hid (Blk.fresh' _ _ _ _ _ rfl rfl)
 obtain ⟨w1,hw1⟩ : ∃ x,x = w.alloc (.cells #[.int .i64 0,.int .i64 0,.int .i64 0,.int .i64 0,.slice none 0 0] 26) := ⟨_,rfl⟩
 rw [← hw1] at E0 B0
 have HS1 : Hid (w1.heap.size = w.heap.size + 1) := hid (by rw [hw1];simp)
 obtain ⟨g,hg⟩ : ∃ g,g = w.heap.size := ⟨_,rfl⟩
 go_enter Tryz.func9,Tryz.ntmps9
 go_upto_region 1 with fail
 change Code.wp _ _ _ _ (w.alloc (.cells #[.int .i64 0,.int .i64 0,.int .i64 0,.int .i64 0,.slice none 0 0] 26))
 rw [← hw1]
 clear hw1
 rw [← hg] at HS1 B0 ⊢
 obtain ⟨g3,hg3⟩ : ∃ g,g = w1.heap.size := ⟨_,rfl⟩
 go_upto_region 2 with ((refine wpList_store_fresh rfl 26 (.tmp 3) (.tmp 5) rfl _ w1.heap.size rfl [.int .i64 0,.int .i64 0,.int .i64 0,.int .i64 0,.slice none 0 0] [.int .i64 1,.int .i64 0,.int .i64 0,.int .i64 0,.slice none 0 0] 26 (by rfl) (by rfl) rfl ty_info rfl (by intro v hv;simp only [List.mem_cons,List.not_mem_nil,or_false] at hv;rcases hv with rfl | rfl | rfl | rfl | rfl <;> rfl) ?_);intro w2 hw2 hE2 hz2;have E2 : Hid (Ext w1 w2) := hid hE2;have Z2 := hid hw2;clear hw2 hE2 hz2)
 have B2 := hid (B0.out.ext E2.out)
 rw [← hg3] at Z2 ⊢
 have HG3 : Hid (g = w.heap.size ∧ g < g3) := hid ⟨hg,by have := HS1.out;omega⟩
 clear hg hg3 HS1 B0
 simp only [Act.put]
 go_wp2_with fail
 go_loopw [4] (fun i wr => ∃ (k : Nat) (t : List TyN) (cs : List Value),1 ≤ k ∧ k ≤ 1000 ∧ i = .int .i64 (k : Int) ∧ TyP (fun b => g3 < b) wr t cs ∧ TyW t ∧ t.length = k ∧ Blk wr g3 26 cs ∧ Blk wr g 26 [.int .i64 0,.int .i64 0,.int .i64 0,.int .i64 0,.slice none 0 0] ∧ Ext w wr) (fun i _ => 1000 - (intOf i).toNat)
 case atStart => exact ⟨1,[⟨1,⟨0,0,0⟩⟩],_,Nat.le_refl _,by decide,rfl,⟨none,0,rfl,by decide⟩,fun x hx => by rw [List.mem_singleton.1 hx];exact i64_ty _ (by decide) (by decide),rfl,Z2.out,B2.out,E0.out.next E2.out⟩
 case round =>
  obtain ⟨k,t,cs,hk1,hk2,rfl,hty,htw,htl,hB,hG,hE⟩ := hrel
  obtain ⟨wi,rfl⟩ : ∃ x : World,x = wr := ⟨_,rfl⟩
  have HTY := hid hty;have HTW := hid htw;have BI := hid hB;have GI := hid hG;have EI := hid hE;have HTL := hid htl
  have HSZ : Hid (w.heap.size ≤ g ∧ g3 < wi.heap.size) := hid ⟨by have := HG3.out;omega,hB.lt⟩
  obtain ⟨p0,p1,p2,p3,p4,rfl⟩ := list5 cs hty.tyV.len
  have HONE : Hid (∀ v ∈ [p0,p1,p2,p3,p4],v.oneCell' = true) := hid hty.tyV.one
  clear hty htw hB hG hE htl B2 Z2
  by_cases hlt : (k : Int) < n
  ·have hd : decide ((k : Int) < n) = true := decide_eq_true hlt
   have HLT := hid hlt
   have BA : Hid (Blk (wi.alloc (.cells #[p0,p1,p2,p3,p4] 26)) g3 26 [p0,p1,p2,p3,p4]) := hid (BI.out.ext ((Ext.refl wi).alloc _))
   have EA : Hid (Ext w (wi.alloc (.cells #[p0,p1,p2,p3,p4] 26))) := hid (EI.out.alloc _)
   have hl5 : [p0,p1,p2,p3,p4].length = 5 := rfl
   clear hlt
   go_wp2_with (first
    | (refine wpList_load_blk rfl 26 (.tmp 3) rfl g3 (by kernel_rfl) BI.out Tryz.underlying26 rfl (ty_info.trans rfl) ?_)
    | (refine wpList_store_blk rfl 26 (.tmp 3) (.tmp 13) rfl g3 [.int .i64 2,.int .i64 0,.int .i64 0,.int .i64 0,.slice (some ⟨wi.heap.size,0,none⟩) 1 1] (by kernel_rfl) (by kernel_rfl) BA.out (ty_info.trans rfl) rfl (by intro v hv;simp only [List.mem_cons,List.not_mem_nil,or_false] at hv;rcases hv with rfl | rfl | rfl | rfl | rfl <;> rfl) ?_;intro w5 hw5 hb5;have B5 := hid hb5;have W5 := hid hw5;clear hw5 hb5))
   go_roundw
   case rel =>
    have K5 : Kept (fun b => b = g3) (wi.alloc (.cells #[p0,p1,p2,p3,p4] 26)) w5 := by rw [W5.out];exact Kept.setRow (F := fun b => b = g3) _ rfl _
    have K : Kept (fun b => b = g3) wi w5 := (Kept.of_ext ((Ext.refl wi).alloc _)).trans K5
    have BF : Blk w5 wi.heap.size 26 [p0,p1,p2,p3,p4] := K5.blk (Blk.fresh' _ _ _ _ _ rfl rfl) (by have := HSZ.out;omega)
    have hh := HSZ.out;have hg3 := HG3.out
    refine ⟨k + 1,⟨2,⟨0,0,0⟩⟩ :: t,_,by omega,by have := HLT.out;omega,by go_num,TyP.cons (HTY.out.keep K.size (fun b hb1 hb2 => K.block b hb2 (by omega))) wi.heap.size 0 1 (Nat.le_refl _) (by decide) (by omega) BF.lt (fun j u hu => by rw [BF.cell,Nat.zero_add];exact hu),?_,by rw [List.length_cons,HTL.out],B5.out,K.blk GI.out (by omega),?_⟩
    ·intro x hx
     rcases List.mem_cons.1 hx with rfl | hx
     ·exact i64_ty _ (by decide) (by decide)
     ·exact HTW.out x hx
    ·rw [W5.out]
     exact EA.out.setRow (by omega) _
   case measure => simp [intOf];have := HLT.out;omega
  ·have hd : decide ((k : Int) < n) = false := decide_eq_false hlt
   clear hlt
   go_wp2_with (first
    | (refine wpList_load_blk rfl 26 (.tmp 3) rfl g3 (by kernel_rfl) BI.out Tryz.underlying26 rfl (ty_info.trans rfl) ?_)
    | (refine wpList_store_blk rfl 26 (.tmp 2) (.tmp 14) rfl g [p0,p1,p2,p3,p4] (by kernel_rfl) (by kernel_rfl) GI.out (ty_info.trans rfl) rfl HONE.out ?_;intro w5 hw5 hb5;have B5 := hid hb5;have W5 := hid hw5;clear hw5 hb5))
   simp only [Act.put]
   have E5 : Ext w w5 := by rw [W5.out];exact EI.out.setRow (by have := HSZ.out;omega) _
   have K : Kept (fun b => b = g) wi w5 := by rw [W5.out];exact Kept.setRow (F := fun b => b = g) _ rfl _
   refine bodyPost_ret (results_blk Tryz.results9 _ _ g 26 [p0,p1,p2,p3,p4] _ rfl B5.out Tryz.underlying26 rfl (ty_info.trans rfl)) rfl ⟨⟨t,_,rfl,(HTY.out.keep K.size (fun b hb1 hb2 => K.block b hb2 (by have := HG3.out;omega))).mono (fun b _ hb => by have := HG3.out;omega),HTW.out,by rw [HTL.out];omega⟩,E5⟩
end Go.Proofs.YtojcmcccahjphaaGreatDoor
