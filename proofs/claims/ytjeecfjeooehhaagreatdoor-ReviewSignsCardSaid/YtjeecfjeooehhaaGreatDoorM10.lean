/- The walks of the reference's Digests and of GetDigests, of the code and of the reference. No condition beyond a bound on the length. -/
import Derived.Test.YtjeecfjeooehhaaGreatDoorM9
import Derived.Test.YtjeecfjeooehhaaGreatDoorM3
import Derived.Test.YtjeecfjeooehhaaGreatDoorM7
set_option linter.unusedSimpArgs false
set_option linter.unusedVariables false
set_option maxHeartbeats 16000000
set_option maxRecDepth 100000
namespace Go.Proofs.YtjeecfjeooehhaaGreatDoor
open Go.RowKit
open Lib (hid)
theorem take_snoc' (d : List Int) (j : Nat) (h : j < d.length) : d.take (j + 1) = d.take j ++ [d.getD j 0] := by
 have : d[j]? = some (d.getD j 0) := by simp [List.getD_eq_getElem?_getD,List.getElem?_eq_getElem h]
 rw [List.take_add_one,this];rfl
theorem rdigests_any (ds : List (List Int)) (A : Option Addr) (n c : Nat) (w : World) (hl : RdN w w.heap.size 16 A n (celD ds)) (hd : Dig16 ds) (hlen : ds.length = n) (hn : n ≤ 1000000000) :
  Calls Tryz.prog 75 #[.slice A n c] w fun e w' => (∃ A' c',e = .returned (.slice A' (encL idD ds).length c') ∧ w'.ownsRow w.heap.size 5 1 (.slice A' (encL idD ds).length c') (encL idD ds).length (u8s (encL idD ds))) ∧ Below w.heap.size w w' := by
 obtain ⟨i0,hi,hz0,hz1,hz2⟩ := info_parts winfo_u8
 have hn0 : (-9223372036854775808 : Int) ≤ (n : Int) := by omega
 have hn1 : (n : Int) ≤ 9223372036854775807 := by omega
 have h9 := encInt_le9 (n : Int) hn0 hn1
 have HCAT : Hid (∀ t,(encTo idD ds t).length ≤ 90000000000) := hid (fun t => Nat.le_trans (encTo_le _ ds t) (by unfold encL;rw [List.length_append,encD_le ds hd,hlen];omega))
 have HL := hid hl
 have HN := hid hlen
 have HD := hid hd
 have HT0 : Hid (encTo idD ds 0 = encInt n) := hid (by unfold encTo;rw [hlen];simp)
 have HTN : Hid (encTo idD ds n = encL idD ds) := hid (by rw [← hlen];exact encTo_full _ ds)
 clear hl hlen hd h9
 go_enter Tryz.func75,Tryz.ntmps75
 go_wp2_with (go_at_call 52;(with_reducible refine (rintL_any (n : Int) w hn0 hn1).mono ?_);rintro e w1 ⟨⟨A1,c1,rfl,hown1⟩,hB1⟩)
 go_loopw [4,3] (fun i s5 wr => ∃ (t : Nat) (A : Option Addr) (c m : Nat),t ≤ n ∧ i = .int .i64 t ∧ s5 = .slice A m c ∧ m = (encTo idD ds t).length ∧ wr.ownsRow w.heap.size 5 1 (.slice A m c) m (u8s (encTo idD ds t)) ∧ Below w.heap.size w wr)
  (fun i _ _ => n - (intOf i).toNat)
 case atStart => exact ⟨0,_,_,_,Nat.zero_le _,rfl,rfl,by rw [HT0.out],by rw [HT0.out];exact hown1,hB1⟩
 case round =>
  clear hown1 hB1
  obtain ⟨t,A2,c2,m,ht,rfl,rfl,hm,hown,hB⟩ := hrel
  have hs := hB.size
  obtain ⟨wo,rfl⟩ : ∃ x : World,x = wr := ⟨_,rfl⟩
  by_cases hlt : t < n
  ·obtain ⟨-,b,o,rfl,hb,hc⟩ := rd_dig HL.out HD.out (by omega)
   have hx := HD.out.at_ (by rw [HN.out];exact hlt : t < ds.length)
   have hT := encTo_succ idD ds t [] (by rw [HN.out];exact hlt)
   have HCC : Hid (∀ j,j < 16 → w.cell? ⟨b,o + t * 16 + j,none⟩ = some (.int .u8 ((ds.getD t []).getD j 0))) := hid (fun j hj => hc t j hlt hj)
   obtain ⟨d,hdd⟩ : ∃ d,d = ds.getD t [] := ⟨_,rfl⟩
   rw [← hdd] at hx HCC hT
   have HX : Hid (d.length = 16) := hid hx.1
   have hm2 : m ≤ 90000000000 := by rw [hm];exact HCAT.out t
   have HT : Hid (encTo idD ds (t + 1) = encTo idD ds t ++ d) := hid hT
   have HM := hid hm
   clear hc hT hm hx hdd
   go_wp2_with fail
   go_loopw [5,3] (fun i s3 wr => ∃ (j : Nat) (A : Option Addr) (c : Nat),j ≤ 16 ∧ i = .int .i64 j ∧ s3 = .slice A (m + j) c ∧ wr.ownsRow w.heap.size 5 1 (.slice A (m + j) c) (m + j) (u8s (encTo idD ds t ++ d.take j)) ∧ Below w.heap.size w wr)
    (fun i _ _ => 16 - (intOf i).toNat)
   case atStart => exact ⟨0,_,_,Nat.zero_le _,rfl,rfl,by rw [List.take_zero,List.append_nil];exact hown,hB⟩
   case round =>
    clear hown hB
    obtain ⟨j,A3,c3,hj,rfl,rfl,hown,hB⟩ := hrel
    have hs3 := hB.size
    by_cases hlj : j < 16
    ·have c0 := (hB.cell (p := ⟨b,o + t * 16 + j,none⟩) hb).trans (HCC.out j hlj)
     have HTK := hid (take_snoc' d j (by rw [HX.out];exact hlj))
     generalize d.getD j 0 = x at *
     go_wp2_with (at_builtin;refine wpList_app rfl (.tmp 19) (.tmp 26) 23 rfl w.heap.size 5 i0 (.int .u8 0) 1 1 Tryz.underlying23 hi hz0 hz1 hz2 rfl (by omega) A3 (m + j) c3 _ rfl (hown.alloc _) (wr.heap.size + 1) _ 1 1 [.int .u8 x] rfl (RdN.fresh [.int .u8 x] _ _ 1 1 rfl rfl rfl) (by intro u hu;rw [List.mem_singleton] at hu;subst hu;rfl) (by simp only [maxLen];omega) (by omega) (by simp;omega) ?_;intro A4 c4 w4 hown4 hg4;have hb4 := below_app (Below.alloc hB hs3 _) hg4 (hown.alloc _) (Nat.le_refl _) (by simp;omega))
     go_roundw
     case rel => exact ⟨j + 1,A4,c4,by omega,by go_num,rfl,by rw [HTK.out,← List.append_assoc,u8s_append];exact hown4,hb4⟩
     case measure => simp [intOf];omega
    ·obtain rfl : j = 16 := by omega
     have HTK : Hid (d.take 16 = d) := hid (List.take_of_length_le (by rw [HX.out];omega))
     rw [HTK.out,← HT.out] at hown
     go_wp2_with fail
     go_roundw
     case rel => exact ⟨t + 1,A3,c3,_,by omega,by go_num,rfl,by rw [HT.out,List.length_append,HM.out,HX.out],hown,hB⟩
     case measure => simp [intOf];omega
  ·obtain rfl : t = n := by omega
   have HM := hid hm
   clear hm
   go_wp2_with fail
   go_ret
   rw [HM.out,HTN.out] at hown
   exact ⟨⟨A2,c2,by rw [HM.out,HTN.out];rfl,hown⟩,hB⟩
theorem fold_set_from : ∀ (V : List Value) (k : Nat) (Z : Array Value),k + V.length ≤ Z.size → (List.foldl (fun cs x => cs.setIfInBounds x.2 x.1) Z (V.zipIdx k)).toList = Z.toList.take k ++ V ++ Z.toList.drop (k + V.length)
 | [],k,Z,_ => by simp
 | v :: r,k,Z,h => by
  simp only [List.length_cons] at h
  rw [List.zipIdx_cons,List.foldl_cons,fold_set_from r (k + 1) _ (by simp;omega)]
  simp only [Array.toList_setIfInBounds]
  rw [List.drop_set_of_lt (by omega),List.take_add_one,List.take_set_of_le (by omega)]
  simp [List.getElem?_set_self (show k < Z.toList.length by simp;omega),Nat.add_comm,Nat.add_left_comm]
theorem fold_set (V : List Value) (Z : Array Value) (h : V.length = Z.size) : List.foldl (fun cs x => cs.setIfInBounds x.2 x.1) Z V.zipIdx = V.toArray := by
 have h2 := fold_set_from V 0 Z (by omega)
 rw [List.take_zero,List.nil_append,Nat.zero_add,List.drop_of_length_le (by simp;omega),List.append_nil] at h2
 rw [← Array.toList_inj,h2]
theorem cutD_succ (l : List Int) (t : Nat) : cutD l (t + 1) = cutD l t ++ [(l.drop (16 * t)).take 16] := by simp [cutD,List.range_succ]
theorem cutD_length (l : List Int) (t : Nat) : (cutD l t).length = t := by simp [cutD]
theorem winfo_digz : (Tryz.prog.info? 26).map (fun i => (i.zero,i.size,i.bytes)) = some (some (.agg (u8s (List.replicate 16 0)).toArray),16,16) := by kernel_rfl
theorem gdigests_any (l : List Int) (A0 : Option Addr) (n c : Nat) (w : World) (hl : Rd w w.heap.size A0 n (u8s l)) (hby : Byt l) (hnc : n ≤ c) (hc : c ≤ 9223372036854775807) (hn : n ≤ 1000000000000) :
  Calls Tryz.prog 70 #[.slice A0 n c] w fun e w' => (∃ A' c',e = .returned (.tuple #[.slice A' (decD l).1.length c',.int .i64 (decD l).2.1,.int .i64 (decD l).2.2]) ∧
   w'.ownsRow w.heap.size 26 16 (.slice A' (decD l).1.length c') (decD l).1.length (celD (decD l).1)) ∧ Below w.heap.size w w' := by
 obtain ⟨i0,hi,hz0,hz1,hz2⟩ := info_parts winfo_digz
 have hlen : l.length = n := by simpa [u8s] using hl.1
 have HL := hid hl
 rcases cntI_cases l hby 16 (by decide) with ⟨er,hg,he⟩ | ⟨m,k,hg,h1,h9,hk,hm,henc⟩
 ·have HC := hid hg
  have hne2 : er ≠ 0 := by rcases he with rfl | rfl <;> decide
  have HD : Hid (decD l = ([],0,er)) := hid (by unfold decD;rw [hg,if_pos hne2])
  have hne : ((er : Int) == 0) = false := by rcases he with rfl | rfl <;> rfl
  clear hg hl hlen he
  go_enter Tryz.func70,Tryz.ntmps70
  go_wp2_with (go_at_call 116;(with_reducible refine (count16_any l _ n _ w HL.out hby hnc hc).mono ?_);rintro e w0 ⟨⟨a,b0,rfl,hab⟩,rfl⟩;rw [HC.out] at hab;rw [HC.out];clear hab)
  go_ret3
  exact ⟨⟨none,0,by rw [HD.out];rfl,by rw [HD.out];exact World.ownsRow_nil _ _ _ _⟩,Ext.refl w⟩
 ·have HC := hid hg
  obtain ⟨b,o,rfl,hb,hcc⟩ := rd_u8 hl (by omega)
  have HCC := hid hcc
  have HLEN := hid hlen
  have hk1 : k + m * 16 ≤ n := by omega
  have HD : Hid (decD l = (cutD (l.drop k) m,(k : Int) + 16 * m,0)) := hid (by unfold decD;rw [hg];simp)
  have HCL := hid (cutD_length (l.drop k))
  have HCS := hid (cutD_succ (l.drop k))
  have ha := fun (W : World) (a : Option Addr) (cap : Nat) => run_arrayAt (P := Tryz.prog) W 26 5 16 a 16 cap Tryz.underlying26 (Nat.le_refl _)
  clear hg hl hlen henc hk hcc
  go_enter Tryz.func70,Tryz.ntmps70
  go_wp2_with (go_at_call 116;(with_reducible refine (count16_any l _ n _ w HL.out hby hnc hc).mono ?_);rintro e w0 ⟨⟨a,b0,rfl,hab⟩,rfl⟩;rw [HC.out] at hab;rw [HC.out];obtain ⟨rfl,rfl⟩ := hab rfl)
  go_loopw [19,6,8] (fun i s6 s8 wr => ∃ (t p : Nat) (A : Option Addr) (c' : Nat),t ≤ m ∧ Hid (p = k + 16 * t) ∧ i = .int .i64 t ∧ s6 = .int .i64 p ∧ s8 = .slice A t c' ∧ wr.ownsRow w.heap.size 26 16 (.slice A t c') t (celD (cutD (l.drop k) t)) ∧ Below w.heap.size w wr)
   (fun i _ _ _ => m - (intOf i).toNat)
  case atStart => exact ⟨0,k,none,0,Nat.zero_le _,hid (by omega),rfl,rfl,rfl,World.ownsRow_nil _ _ _ _,Ext.refl w⟩
  case round =>
   obtain ⟨t,p,A,c',ht,HP,rfl,rfl,rfl,hown,hB⟩ := hrel
   have hs := hB.size
   by_cases hlt : t < m
   ·have hp16 : p + 16 ≤ n := by have := HP.out;omega
    obtain ⟨d,hdd⟩ : ∃ d,d = ((l.drop k).drop (16 * t)).take 16 := ⟨_,rfl⟩
    have HDD := hid hdd
    have hd16 : d.length = 16 := by rw [hdd,List.length_take,List.length_drop,List.length_drop,HLEN.out];omega
    have HUL : Hid ((u8s d).length = 16) := hid (by rw [u8s_length,hd16])
    have HR : Hid (wr.rangeAt b (o + p) (u8s d)) := hid (range_dig hd16 (fun j hj => by
     rw [hB.cell (p := ⟨b,o + p + j,none⟩) hb,Nat.add_assoc,HCC.out (p + j) (by omega),hdd,List.drop_drop]
     congr 2
     rw [List.getD_eq_getElem?_getD,List.getD_eq_getElem?_getD,List.getElem?_take,if_pos hj,List.getElem?_drop,HP.out]))
    have HCT : Hid (celD (cutD (l.drop k) (t + 1)) = celD (cutD (l.drop k) t) ++ u8s d) := hid (by rw [HCS.out,celD_snoc,hdd])
    clear hdd hd16
    have hl16 := HUL.out
    go_wp2_with (first
     | (refine wpList_load_mid rfl 26 (.tmp 27) (by rfl) b (o + p) (by rfl) (u8s d) _ HR.out Tryz.underlying26 rfl (winfo_dig.trans (congrArg some HUL.out.symm)) ?_)
     | (at_builtin;refine wpList_app rfl (.tmp 21) (.tmp 29) 117 rfl w.heap.size 26 i0 (.agg (u8s (List.replicate 16 0)).toArray) 16 16 Tryz.underlying117 hi hz0 hz1 hz2 rfl (by omega) A t c' _ rfl (hown.alloc _) (wr.heap.size + 1) _ 1 1 (u8s d) rfl (RdN.fresh (u8s d) _ _ 16 1 (by rw [fold_set];exact HUL.out) rfl HUL.out) (u8s_one d) (by simp only [maxLen];omega) (by omega) (by simp;omega) ?_;intro A4 c4 w4 hown4 hg4;have hb4 := below_app (Below.alloc hB hs _) hg4 (hown.alloc _) (Nat.le_refl _) (by simp;omega)))
    go_roundw
    case rel => exact ⟨t + 1,p + 16,A4,c4,by omega,hid (by have := HP.out;omega),by go_num,by go_num,rfl,by rw [HCT.out];exact hown4,hb4⟩
    case measure => simp [intOf];omega
   ·obtain rfl : t = m := by omega
    go_wp2_with fail
    go_ret3
    exact ⟨⟨A,c',by rw [HD.out,HCL.out,HP.out];simp,by rw [HD.out,HCL.out];exact hown⟩,hB⟩
end Go.Proofs.YtjeecfjeooehhaaGreatDoor
/- The bytes of a review: review.encode. Conditions: at most 1000 operations, 64-bit numbers, a seal of at most 10^9 bytes. -/
namespace Go.Proofs.YtjeecfjeooehhaaGreatDoor
open Go.RowKit
open Lib (hid)
attribute [local go_sem ↓] wp_at_zero wp_at_succ
theorem own_lo {w : World} {b b' : Nat} {e : TypeId} {size : Nat} {v : Value} {n : Nat} {xs : List Value} (h : w.ownsRow b e size v n xs) (hb : b' ≤ b) : w.ownsRow b' e size v n xs :=
 ⟨h.1,h.2.imp id (fun ⟨g,cap,cur,h1,h2,h3⟩ => ⟨g,cap,cur,h1,Nat.le_trans hb h2,h3⟩)⟩
def i64 (x : Int) : Prop := -9223372036854775808 ≤ x ∧ x ≤ 9223372036854775807
def opI (x : Rid) : List Int := [x.s,x.q,x.i]
def opsI (L : List Rid) : List Int := L.flatMap opI
def wdI (b : Bool) : Int := if b then 1 else 0
def encR (r : Rev) : List Int := encL encInt [r.shop,r.seq,r.day] ++ encInt (wdI r.wd) ++ encL encInt (opsI r.ops) ++ encL idD [r.mean] ++ encB r.sl
structure RevW (r : Rev) : Prop where
 shop : i64 r.shop
 seq : i64 r.seq
 day : i64 r.day
 ops : ∀ x ∈ opsI r.ops,-9223372036854775808 ≤ x ∧ x ≤ 9223372036854775807
 sls : r.sl.size ≤ 1000000000
 many : r.ops.length ≤ 1000
theorem revC_21 (r : Rev) (A : Option Addr) (n c : Nat) (h : r.mean.length = 16) : (revC r A n c)[21]? = some (.string r.sl) := by
 unfold revC
 rw [List.getElem?_append_right (by simp [u8s,h])]
 simp [u8s,h]
theorem opsI_cells (L : List Rid) : idsC L = (opsI L).map (Value.int .i64) := by
 unfold idsC opsI
 rw [List.map_flatMap]
 rfl
theorem opsI_len (L : List Rid) : (opsI L).length = 3 * L.length := by
 have h := idsC_len L
 rw [opsI_cells,List.length_map] at h
 omega
theorem opsI_snoc {L : List Rid} {t : Nat} {x : Rid} (h : L[t]? = some x) : opsI (L.take (t + 1)) = opsI (L.take t) ++ opI x := by
 unfold opsI
 rw [List.take_add_one,h,List.flatMap_append]
 simp
theorem encL_le (l : List Int) (hw : ∀ x ∈ l,-9223372036854775808 ≤ x ∧ x ≤ 9223372036854775807) (hn : l.length ≤ 1000000) : (encL encInt l).length ≤ 9 + 9 * l.length := by
 have h0 := encInt_le9 (l.length : Int) (by omega) (by omega)
 have h1 : ∀ m : List Int,(∀ x ∈ m,-9223372036854775808 ≤ x ∧ x ≤ 9223372036854775807) → (m.flatMap encInt).length ≤ 9 * m.length := by
  intro m
  induction m with
  | nil => intro _;simp
  | cons x r ih =>
   intro hx
   have h2 := hx x (List.mem_cons_self ..)
   have h3 := encInt_le9 x h2.1 h2.2
   have h4 := ih (fun y hy => hx y (List.mem_cons_of_mem _ hy))
   rw [List.flatMap_cons,List.length_append,List.length_cons]
   omega
 have h2 := h1 l hw
 unfold encL
 rw [List.length_append]
 omega
theorem encode_any (r : Rev) (A : Option Addr) (n c : Nat) (w : World) (hr : RevV w r A n c) (hw : RevW r) : Calls Tryz.prog 31 #[.agg (revC r A n c).toArray] w fun e w' => (∃ A' c',e = .returned (.slice A' (encR r).length c') ∧ w'.ownsRow w.heap.size 5 1 (.slice A' (encR r).length c') (encR r).length (u8s (encR r))) ∧ Ext w w' := by
 obtain ⟨i0,hi,hz0,hz1,hz2⟩ := info_parts winfo_u8
 obtain ⟨i1,hi',hz0',hz1',hz2'⟩ := info_parts winfo_int
 have HR := hid hr
 have HLN := hid hr.len
 have HW := hid hw
 have hn : n ≤ 1000 := by rw [← hr.len];exact hw.many
 have hw3 : ∀ x ∈ [r.shop,r.seq,r.day],-9223372036854775808 ≤ x ∧ x ≤ 9223372036854775807 := fun x hx => by
  simp only [List.mem_cons,List.not_mem_nil,or_false] at hx
  rcases hx with rfl | rfl | rfl
  ·exact hw.shop
  ·exact hw.seq
  ·exact hw.day
 have q1 := encL_le _ hw3 (by simp)
 have q2 := encInt_le9 (wdI r.wd) (by unfold wdI;split <;> decide) (by unfold wdI;split <;> decide)
 have q3 := encL_le _ hw.ops (by rw [opsI_len,HLN.out];omega)
 have q4 : (encL idD [r.mean]).length ≤ 25 := by
  have h := encInt_le9 1 (by decide) (by decide)
  unfold encL idD
  simp only [List.length_append,List.flatMap_cons,List.flatMap_nil,List.length_nil,hr.mean,List.length_cons]
  have : (((0 + 1 : Nat) : Int)) = 1 := rfl
  rw [this];omega
 have q5 : (encB r.sl).length ≤ 9 + r.sl.size := by
  have h := encInt_le9 (r.sl.size : Int) (by omega) (by have := hw.sls;omega)
  unfold encB
  rw [List.length_append,bys_length];omega
 rw [opsI_len,HLN.out] at q3
 simp only [List.length_cons,List.length_nil] at q1
 obtain ⟨e1,he1⟩ : ∃ e,e = encL encInt [r.shop,r.seq,r.day] := ⟨_,rfl⟩
 obtain ⟨e2,he2⟩ : ∃ e,e = encInt (wdI r.wd) := ⟨_,rfl⟩
 obtain ⟨e3,he3⟩ : ∃ e,e = encL encInt (opsI r.ops) := ⟨_,rfl⟩
 obtain ⟨e4,he4⟩ : ∃ e,e = encL idD [r.mean] := ⟨_,rfl⟩
 obtain ⟨e5,he5⟩ : ∃ e,e = encB r.sl := ⟨_,rfl⟩
 have hE : encR r = e1 ++ e2 ++ e3 ++ e4 ++ e5 := by rw [he1,he2,he3,he4,he5];rfl
 rw [← he1] at q1;rw [← he2] at q2;rw [← he3] at q3;rw [← he4] at q4;rw [← he5] at q5
 obtain ⟨k1,hk1⟩ : ∃ k,k = e1.length := ⟨_,rfl⟩
 obtain ⟨k2,hk2⟩ : ∃ k,k = e2.length := ⟨_,rfl⟩
 obtain ⟨k3,hk3⟩ : ∃ k,k = e3.length := ⟨_,rfl⟩
 obtain ⟨k4,hk4⟩ : ∃ k,k = e4.length := ⟨_,rfl⟩
 obtain ⟨k5,hk5⟩ : ∃ k,k = e5.length := ⟨_,rfl⟩
 rw [← hk1] at q1;rw [← hk2] at q2;rw [← hk3] at q3;rw [← hk4] at q4;rw [← hk5] at q5
 have q5' : k5 ≤ 1000000009 := by have := hw.sls;omega
 have q3' : k3 ≤ 27009 := by omega
 have HL : Hid (k1 + k2 + k3 + k4 + k5 = (encR r).length) := hid (by rw [hE];simp only [List.length_append];omega)
 have HU : Hid (u8s e1 ++ u8s e2 ++ u8s e3 ++ u8s e4 ++ u8s e5 = u8s (encR r)) := hid (by rw [hE];simp only [u8s_append])
 have HI1 : Hid (∀ W : World,Calls Tryz.prog 65 #[.slice (some ⟨W.heap.size,0,none⟩) 3 3] (W.alloc (.cells #[.int .i64 r.shop,.int .i64 r.seq,.int .i64 r.day] 3)) fun e w' => (∃ A c,e = .returned (.slice A k1 c) ∧ w'.ownsRow W.heap.size 5 1 (.slice A k1 c) k1 (u8s e1)) ∧ Ext W w') := hid (fun W => by
  have hf := (Blk.fresh W 3 [.int .i64 r.shop,.int .i64 r.seq,.int .i64 r.day]).rd rfl
  have h := ints_any [r.shop,r.seq,r.day] (some ⟨W.heap.size,0,none⟩) 3 3 (W.alloc (.cells #[.int .i64 r.shop,.int .i64 r.seq,.int .i64 r.day] 3)) hf hw3 (by rw [← he1,← hk1];omega) (by decide)
  rw [← he1,← hk1] at h
  refine h.mono ?_
  rintro e w' ⟨⟨A,c,rfl,ho⟩,hB⟩
  exact ⟨⟨A,c,rfl,own_lo ho (by simp)⟩,((Ext.refl W).alloc _).next hB⟩)
 have HI2 : Hid (∀ W : World,Calls Tryz.prog 66 #[.int .i64 (wdI r.wd)] W fun e w' => (∃ A c,e = .returned (.slice A k2 c) ∧ w'.ownsRow W.heap.size 5 1 (.slice A k2 c) k2 (u8s e2)) ∧ Below W.heap.size W w') := hid (fun W => by
  have h := wintL_any (wdI r.wd) W (by unfold wdI;split <;> decide) (by unfold wdI;split <;> decide)
  rw [← he2,← hk2] at h
  exact h)
 have HI3 : Hid (∀ (W : World) (A : Option Addr) (c : Nat),Rd W W.heap.size A (3 * n) ((opsI r.ops).map (Value.int .i64)) → Calls Tryz.prog 65 #[.slice A (3 * n) c] W fun e w' => (∃ A c,e = .returned (.slice A k3 c) ∧ w'.ownsRow W.heap.size 5 1 (.slice A k3 c) k3 (u8s e3)) ∧ Below W.heap.size W w') := hid (fun W A c hA => by
  have h := ints_any (opsI r.ops) A (3 * n) c W hA hw.ops (by rw [← he3,← hk3];omega) (by omega)
  rw [← he3,← hk3] at h
  exact h)
 have HI4 : Hid (∀ (W : World) (o : Obj),o = .cells (u8s r.mean).toArray 26 → Calls Tryz.prog 67 #[.slice (some ⟨W.heap.size,0,none⟩) 1 1] (W.alloc o) fun e w' => (∃ A c,e = .returned (.slice A k4 c) ∧ w'.ownsRow W.heap.size 5 1 (.slice A k4 c) k4 (u8s e4)) ∧ Ext W w') := hid (fun W o ho => by
  have hul : (u8s r.mean).length = 16 := by rw [u8s_length,hr.mean]
  have hA : RdN (W.alloc o) (W.alloc o).heap.size 16 (some ⟨W.heap.size,0,none⟩) 1 (celD [r.mean]) := by
   rw [show celD [r.mean] = u8s r.mean from by simp [celD],World.size_alloc]
   exact RdN.fresh _ _ _ 16 1 ho rfl hul
  have h := digests_any [r.mean] (some ⟨W.heap.size,0,none⟩) 1 1 (W.alloc o) hA (fun d hd => by rw [List.mem_singleton] at hd;subst hd;exact ⟨hr.mean,hr.mbyt⟩) rfl (by decide)
  rw [← he4,← hk4] at h
  refine h.mono ?_
  rintro e w' ⟨⟨A,c,rfl,ho⟩,hB⟩
  exact ⟨⟨A,c,rfl,own_lo ho (by simp)⟩,((Ext.refl W).alloc _).next hB⟩)
 have HI5 : Hid (∀ W : World,Calls Tryz.prog 68 #[.string r.sl] W fun e w' => (∃ A c,e = .returned (.slice A k5 c) ∧ w'.ownsRow W.heap.size 5 1 (.slice A k5 c) k5 (u8s e5)) ∧ Below W.heap.size W w') := hid (fun W => by
  have h := wbytes_any r.sl W (by have := hw.sls;omega)
  rw [← he5,← hk5] at h
  exact h)
 have HUL : Hid ((u8s r.mean).length = 16) := hid (by rw [u8s_length,hr.mean])
 have hl16 := HUL.out
 have HWD : Hid (wdI r.wd = if r.wd then 1 else 0) := hid rfl
 clear hr hw hw3 he1 he2 he3 he4 he5 hE hk1 hk2 hk3 hk4 hk5 q3 q5
 go_enter Tryz.func31,Tryz.ntmps31
 go_upto_region 1 with fail
 obtain ⟨w1,hw1⟩ : ∃ x,x = w.alloc (.cells (revC r A n c).toArray 28) := ⟨_,rfl⟩
 change Code.wp _ _ _ _ (w.alloc (.cells (revC r A n c).toArray 28))
 rw [← hw1]
 have E1 : Hid (Ext w w1) := hid (by rw [hw1];exact (Ext.refl w).alloc _)
 have BR : Hid (Blk w1 w.heap.size 28 (revC r A n c)) := hid (by rw [hw1];exact Blk.fresh' _ _ _ _ _ rfl rfl)
 clear hw1
 obtain ⟨c0,c1,c2,-,-⟩ := rev_cell BR.out
 go_upto_region 2 with ((go_at_call 65;(with_reducible refine (HI1.out w1).mono ?_);rintro e w2 ⟨⟨A1,a1,rfl,o1⟩,x1⟩;have O1 := hid o1;have X1 : Hid (Ext w1 w2) := hid x1;clear o1 x1;have c3 : w2.cell? ⟨w.heap.size,3,none⟩ = some (.bool r.wd) := (BR.out.ext X1.out).cell 3))
 clear c0 c1 c2
 go_upto_if 17 with fail
 go_cut [4] from 17 to 18 (fun s wx => s = .int .i64 (wdI r.wd) ∧ w2 = wx)
 case first =>
  obtain ⟨b,hb⟩ : ∃ b,b = r.wd := ⟨_,rfl⟩
  have HB1 : Hid (b = true → wdI r.wd = 1) := hid (fun h => by rw [HWD.out,← hb,h];rfl)
  have HB0 : Hid (b = false → wdI r.wd = 0) := hid (fun h => by rw [HWD.out,← hb,h];rfl)
  rw [← hb]
  clear c3 hb
  cases b
  ·have hv := hid (HB0.out rfl)
   go_wp2_with fail
   go_meet
   case rel => exact ⟨by rw [hv.out],rfl⟩
  ·have hv := hid (HB1.out rfl)
   go_wp2_with fail
   go_meet
   case rel => exact ⟨by rw [hv.out],rfl⟩
 case rest =>
  obtain ⟨hs4,rfl⟩ := hcut
  subst hs4
  clear c3
  go_upto_region 8 with ((first
   | (go_at_call 66;(with_reducible refine (HI2.out w2).mono ?_);rintro e w3 ⟨⟨A2,a2,rfl,o2⟩,x2⟩;have O2 := hid o2;have X2 : Hid (Ext w1 w3) := hid (X1.out.next x2);have O12 := hid (own_below O1.out x2);clear o2 x2)
   | (at_builtin;refine wpList_app rfl (.tmp 18) (.tmp 20) 23 rfl w1.heap.size 5 i0 (.int .u8 0) 1 1 Tryz.underlying23 hi hz0 hz1 hz2 rfl (by omega) A1 (k1) a1 _ rfl O12.out w3.heap.size A2 k2 a2 _ rfl (RdN.of_Rd (Rd.of_own O2.out)) (u8s_one _) (by simp only [maxLen];omega) (by omega) (X2.out.size) ?_;intro B3 d3 v3 o3 g3;have O3 := hid o3;have X3 : Hid (Ext w1 v3) := hid (below_app X2.out g3 O12.out (Nat.le_refl _) (X2.out.size));clear o3 g3;have cc4 : v3.cell? ⟨w.heap.size,4,none⟩ = some (.slice A n c) := (BR.out.ext X3.out).cell 4)))
  obtain ⟨v0,rfl⟩ : ∃ x : World,x = v3 := ⟨_,rfl⟩
  go_loopw [25,5] (fun i s5 wr => ∃ (t m : Nat) (A : Option Addr) (c : Nat),t ≤ n ∧ Hid (m = 3 * t) ∧ i = .int .i64 (t : Int) ∧ s5 = .slice A m c ∧ wr.ownsRow v0.heap.size 3 1 (.slice A m c) m ((opsI (r.ops.take t)).map (Value.int .i64)) ∧ Ext v0 wr) (fun i _ _ => n - (intOf i).toNat)
  case atStart => exact ⟨0,0,none,0,by omega,hid rfl,rfl,rfl,World.ownsRow_nil _ _ _ _,Ext.refl _⟩
  case round =>
   obtain ⟨t,m,A5,c5,ht,HM,rfl,rfl,hO,hE⟩ := hrel
   have O5 := hid hO;have EO := hid hE
   clear hO hE cc4
   obtain ⟨wo,rfl⟩ : ∃ x : World,x = wr := ⟨_,rfl⟩
   by_cases hlt : t < n
   ·obtain ⟨g,p,hA,hg,hcc⟩ := HR.out.row.2 (by omega)
    subst hA
    obtain ⟨⟨s,q,z⟩,hy⟩ : ∃ y,y = r.ops.getD t rid0 := ⟨_,rfl⟩
    have hy2 : r.ops[t]? = some ⟨s,q,z⟩ := by rw [hy];exact getD_of (by rw [HLN.out];exact hlt)
    have HRG : Hid (wo.rangeAt g (p + t * 3) [.int .i64 s,.int .i64 q,.int .i64 z]) := hid (ids_range (L := r.ops) (x := ⟨s,q,z⟩) (fun j u hu => (((E1.out.next X3.out).next EO.out).cell (p := ⟨g,p + j,none⟩) hg).trans (hcc j u hu)) hy2)
    have HTK : Hid ((opsI (r.ops.take (t + 1))).map (Value.int .i64) = (opsI (r.ops.take t)).map (Value.int .i64) ++ [.int .i64 s,.int .i64 q,.int .i64 z]) := hid (by rw [opsI_snoc hy2,List.map_append];rfl)
    have hm3 : m ≤ 3000 := by have := HM.out;omega
    obtain ⟨z0,hz0,hz1⟩ : ∃ Z : List Value,(∀ W,(zeroValue 68).run Tryz.prog W = .ok (.agg Z.toArray) W) ∧ Z.length = 3 := ⟨[.int .i64 0,.int .i64 0,.int .i64 0],fun W => by kernel_rfl,rfl⟩
    have HZ1 := hid hz1
    clear hz1 hcc hy hy2
    go_wp2_with ((first
     | (refine wpList_load_mid rfl 68 (.tmp 27) rfl g (p + t * 3) rfl [.int .i64 s,.int .i64 q,.int .i64 z] _ HRG.out Tryz.underlying68 rfl (info_id.trans rfl) ?_)
     | (refine wpList_store_fresh rfl 68 (.tmp 7) (.tmp 28) rfl _ wo.heap.size rfl z0 [.int .i64 s,.int .i64 q,.int .i64 z] 68 (by rfl) (by rfl) rfl (info_id.trans rfl) (HZ1.out.trans rfl) (idC_one ⟨s,q,z⟩) ?_;intro w6 hw6 hE6 hz6;have E6 : Hid (Ext v0 w6) := hid (EO.out.next hE6);have b0 : w6.cell? ⟨wo.heap.size,0,none⟩ = some (.int .i64 s) := hw6.cell 0;have b1 : w6.cell? ⟨wo.heap.size,1,none⟩ = some (.int .i64 q) := hw6.cell 1;have b2 : w6.cell? ⟨wo.heap.size,2,none⟩ = some (.int .i64 z) := hw6.cell 2;have O6 := hid (own_below O5.out hE6);clear hw6 hE6 hz6)
     | (at_builtin;refine wpList_app rfl (.tmp 29) (.tmp 36) 22 rfl v0.heap.size 3 i1 (.int .i64 0) 1 8 Tryz.underlying22 hi' hz0' hz1' hz2' rfl (by omega) A5 m c5 _ rfl (O6.out.alloc _) (w6.heap.size + 1) (some ⟨w6.heap.size,0,none⟩) 3 3 [.int .i64 s,.int .i64 q,.int .i64 z] rfl (RdN.fresh _ _ _ 1 3 rfl rfl rfl) (idC_one ⟨s,q,z⟩) (by simp only [maxLen];omega) (by omega) (by have := E6.out.size;simp;omega) ?_;intro A7 c7 w7 o7 g7;have hb7 := below_app (E6.out.alloc _) g7 (O6.out.alloc _) (Nat.le_refl _) (by have := E6.out.size;simp;omega))))
    exact ⟨⟨t + 1,m + 3,A7,c7,by omega,hid (by have := HM.out;omega),by go_num,rfl,by rw [HTK.out];exact o7,hb7⟩,by simp [intOf];omega⟩
   ·obtain rfl : t = n := by omega
    have HTF : Hid (opsI (r.ops.take t) = opsI r.ops) := hid (by rw [List.take_of_length_le (by rw [HLN.out];omega)])
    have HM' := hid HM.out
    have hmm := HM.out
    subst hmm
    have HRO : Hid (Rd wo wo.heap.size A5 (3 * t) ((opsI r.ops).map (Value.int .i64))) := hid (by have h := Rd.of_own O5.out;rw [HTF.out] at h;exact h)
    have O30 := hid (own_below O3.out EO.out)
    have X30 := hid (X3.out.next EO.out)
    go_upto_region 13 with ((first
     | (go_at_call 65;(with_reducible refine (HI3.out wo A5 c5 HRO.out).mono ?_);rintro e w8 ⟨⟨A8,a8,rfl,o8⟩,x8⟩;have O8 := hid o8;have X8 : Hid (Ext w1 w8) := hid (X30.out.next x8);have O38 := hid (own_below O30.out x8);clear o8 x8)
     | (at_builtin;refine wpList_app rfl (.tmp 39) (.tmp 41) 23 rfl w1.heap.size 5 i0 (.int .u8 0) 1 1 Tryz.underlying23 hi hz0 hz1 hz2 rfl (by omega) B3 (k1 + k2) d3 _ rfl O38.out w8.heap.size A8 k3 a8 _ rfl (RdN.of_Rd (Rd.of_own O8.out)) (u8s_one _) (by simp only [maxLen];omega) (by omega) (X8.out.size) ?_;intro B9 d9 v9 o9 g9;have O9 := hid o9;have X9 : Hid (Ext w1 v9) := hid (below_app X8.out g9 O38.out (Nat.le_refl _) (X8.out.size));clear o9 g9)))
    have HMR : Hid (v9.rangeAt w.heap.size 5 (u8s r.mean)) := hid (fun j u hu => by
     have h := (BR.out.ext X9.out).cell (5 + j)
     rw [h]
     unfold revC
     have hj := (List.getElem?_eq_some_iff.1 hu).1
     rw [List.append_assoc,List.getElem?_append_right (by simp),List.getElem?_append_left (by simp;omega)]
     simp only [List.length_cons,List.length_nil]
     rw [show 5 + j - (0 + 1 + 1 + 1 + 1 + 1) = j by omega]
     exact hu)
    go_upto_region 14 with ((first
     | (refine wpList_load_mid rfl 26 (.tmp 44) (by rfl) w.heap.size 5 (by rfl) (u8s r.mean) _ HMR.out Tryz.underlying26 rfl (winfo_dig.trans (congrArg some HUL.out.symm)) ?_)
     | (go_at_call 67;(with_reducible refine Calls.mono (HI4.out v9 _ ?_) ?_);(exact congrArg (fun z => Obj.cells z 26) (fold_set _ _ HUL.out));rintro e w10 ⟨⟨A10,a10,rfl,o10⟩,x10⟩;have O10 := hid o10;have X10 : Hid (Ext w1 w10) := hid (X9.out.next x10);have O910 := hid (own_below O9.out x10);clear o10 x10)
     | (at_builtin;refine wpList_app rfl (.tmp 43) (.tmp 47) 23 rfl w1.heap.size 5 i0 (.int .u8 0) 1 1 Tryz.underlying23 hi hz0 hz1 hz2 rfl (by omega) B9 (k1 + k2 + k3) d9 _ rfl O910.out w10.heap.size A10 k4 a10 _ rfl (RdN.of_Rd (Rd.of_own O10.out)) (u8s_one _) (by simp only [maxLen];omega) (by omega) (X10.out.size) ?_;intro B11 d11 v11 o11 g11;have O11 := hid o11;have X11 : Hid (Ext w1 v11) := hid (below_app X10.out g11 O910.out (Nat.le_refl _) (X10.out.size));clear o11 g11)))
    have c21 : v11.cell? ⟨w.heap.size,21,none⟩ = some (.string r.sl) := by
     exact ((BR.out.ext X11.out).cell 21).trans (revC_21 _ _ _ _ HR.out.mean)
    go_wp2_with ((first
     | (go_at_call 68;(with_reducible refine (HI5.out v11).mono ?_);rintro e w12 ⟨⟨A12,a12,rfl,o12⟩,x12⟩;have O12' := hid o12;have X12 : Hid (Ext w1 w12) := hid (X11.out.next x12);have O112 := hid (own_below O11.out x12);clear o12 x12)
     | (at_builtin;refine wpList_app rfl (.tmp 49) (.tmp 52) 23 rfl w1.heap.size 5 i0 (.int .u8 0) 1 1 Tryz.underlying23 hi hz0 hz1 hz2 rfl (by omega) B11 (k1 + k2 + k3 + k4) d11 _ rfl O112.out w12.heap.size A12 k5 a12 _ rfl (RdN.of_Rd (Rd.of_own O12'.out)) (u8s_one _) (by simp only [maxLen];omega) (by omega) (X12.out.size) ?_;intro B13 d13 v13 o13 g13;have O13 := hid o13;have X13 : Hid (Ext w1 v13) := hid (below_app X12.out g13 O112.out (Nat.le_refl _) (X12.out.size));clear o13 g13)))
    go_ret
    have ho := O13.out
    rw [HU.out,HL.out] at ho
    exact ⟨⟨B13,d13,by rw [← HL.out];rfl,own_lo ho E1.out.size⟩,E1.out.next X13.out⟩
end Go.Proofs.YtjeecfjeooehhaaGreatDoor
