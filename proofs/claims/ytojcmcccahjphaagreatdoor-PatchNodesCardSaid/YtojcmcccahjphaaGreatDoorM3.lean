/- The walks of count and GetBytes, of the code and of the reference. No condition beyond a bound on the length. -/
import Derived.Test.YtojcmcccahjphaaGreatDoorM1
import Derived.Test.YtojcmcccahjphaaGreatDoorM2
set_option linter.unusedSimpArgs false
set_option linter.unusedVariables false
set_option maxHeartbeats 16000000
set_option maxRecDepth 100000
namespace Go.Proofs.YtojcmcccahjphaaGreatDoor
open Go.RowKit
open Lib (hid)
theorem count_any (l : List Int) (A : Option Addr) (n c s : Nat) (w : World) (hl : Rd w w.heap.size A n (u8s l)) (hby : Byt l) (hnc : n ≤ c) (hc : c ≤ 9223372036854775807) (hs1 : 1 ≤ s) (hs2 : s ≤ 1000) :
  Calls Tryz.prog 92 #[.slice A n c,.int .i64 s] w fun e w' => (∃ a b : Int,e = .returned (.tuple #[.int .i64 a,.int .i64 b,.int .i64 (cntI l s).2.2]) ∧ ((cntI l s).2.2 = 0 → a = (cntI l s).1 ∧ b = (cntI l s).2.1)) ∧ w = w' := by
 have hlen : l.length = n := by simpa [u8s] using hl.1
 have HL := hid hl
 rcases getI_cases l hby with ⟨er,hg,he⟩ | ⟨v,k,hg,h1,h9,hk,hv0,hv1,henc⟩
 ·have HG := hid hg
  have HC : Hid (cntI l s = (0,0,er)) := hid (by unfold cntI;rw [hg,if_pos (by rcases he with rfl | rfl <;> simp)])
  have hne : ((er : Int) == 0) = false := by rcases he with rfl | rfl <;> rfl
  have hne2 : er ≠ 0 := by rcases he with rfl | rfl <;> decide
  clear hg hl hlen he
  go_enter Tryz.func92,Tryz.ntmps92
  go_wp2_with (go_at_call 69;(with_reducible refine (gint_any l A n c w HL.out hby hnc hc).mono ?_);rintro e w' ⟨rfl,rfl⟩;rw [HG.out];unfold tup3)
  go_ret3
  exact ⟨⟨0,0,by rw [HC.out];rfl,by rw [HC.out];intro _;exact ⟨rfl,rfl⟩⟩,rfl⟩
 ·have HG := hid hg
  have HLEN := hid hlen
  have hkn : k ≤ n := by omega
  by_cases hneg : v < 0
  ·have HC : Hid (cntI l s = (0,0,2)) := hid (by unfold cntI;rw [hg];simp [hneg])
   clear hg hl hlen henc hk
   go_enter Tryz.func92,Tryz.ntmps92
   go_wp2_with (go_at_call 69;(with_reducible refine (gint_any l A n c w HL.out hby hnc hc).mono ?_);rintro e w' ⟨rfl,rfl⟩;rw [HG.out];unfold tup3)
   go_ret3
   exact ⟨⟨v,k,by rw [HC.out];rfl,by rw [HC.out];intro h;cases h⟩,rfl⟩
  ·have HC : Hid (cntI l s = if ((n : Int) - k) / s < v then (0,0,3) else (v,(k : Int),0)) := hid (by unfold cntI;rw [hg,hlen];simp [hneg])
   have hs0 : (1 : Int) ≤ (s : Int) := by omega
   by_cases hq : ((n : Int) - k) / s < v
   ·have HC2 : Hid (cntI l s = (0,0,3)) := hid (by rw [HC.out,if_pos hq])
    clear hg hl hlen henc hk
    go_enter Tryz.func92,Tryz.ntmps92
    go_wp2_with (go_at_call 69;(with_reducible refine (gint_any l A n c w HL.out hby hnc hc).mono ?_);rintro e w' ⟨rfl,rfl⟩;rw [HG.out];unfold tup3)
    go_ret3
    exact ⟨⟨v,k,by rw [HC2.out];rfl,by rw [HC2.out];intro h;cases h⟩,rfl⟩
   ·have HC2 : Hid (cntI l s = (v,(k : Int),0)) := hid (by rw [HC.out,if_neg hq])
    clear hg hl hlen henc hk
    go_enter Tryz.func92,Tryz.ntmps92
    go_wp2_with (go_at_call 69;(with_reducible refine (gint_any l A n c w HL.out hby hnc hc).mono ?_);rintro e w' ⟨rfl,rfl⟩;rw [HG.out];unfold tup3)
    go_ret3
    exact ⟨⟨v,k,by rw [HC2.out];rfl,by rw [HC2.out];intro _;exact ⟨rfl,rfl⟩⟩,rfl⟩
end Go.Proofs.YtojcmcccahjphaaGreatDoor
/- The walks of GetBytes,of the code and of the reference. No condition beyond a bound on the length. -/
namespace Go.Proofs.YtojcmcccahjphaaGreatDoor
open Go.RowKit
open Lib (hid)
def tupS (x : ByteArray × Int × Int) : Value := .tuple #[.string x.1,.int .i64 x.2.1,.int .i64 x.2.2]
theorem count1_any (l : List Int) (A : Option Addr) (n c : Nat) (w : World) (hl : Rd w w.heap.size A n (u8s l)) (hby : Byt l) (hnc : n ≤ c) (hc : c ≤ 9223372036854775807) :
  Calls Tryz.prog 92 #[.slice A n c,.int .i64 1] w fun e w' => (∃ a b : Int,e = .returned (.tuple #[.int .i64 a,.int .i64 b,.int .i64 (cntI l 1).2.2]) ∧ ((cntI l 1).2.2 = 0 → a = (cntI l 1).1 ∧ b = (cntI l 1).2.1)) ∧ w = w' :=
 count_any l A n c 1 w hl hby hnc hc (by decide) (by decide)
theorem u8s_dt (l : List Int) (k m : Nat) : ((u8s l).drop k).take m = u8s ((l.drop k).take m) := by simp [u8s,List.map_drop,List.map_take]
theorem gbytes_any (l : List Int) (A0 : Option Addr) (n c : Nat) (w : World) (hl : Rd w w.heap.size A0 n (u8s l)) (hby : Byt l) (hnc : n ≤ c) (hc : c ≤ 9223372036854775807) (hn : n ≤ 1000000000000) :
  Calls Tryz.prog 85 #[.slice A0 n c] w fun e w' => e = .returned (tupS (decS l)) ∧ w = w' := by
 have hlen : l.length = n := by simpa [u8s] using hl.1
 have HL := hid hl
 rcases cntI_cases l hby 1 (Nat.le_refl _) with ⟨er,hg,he⟩ | ⟨m,k,hg,h1,h9,hk,hm,henc⟩
 ·have HC := hid hg
  have HD : Hid (decS l = (ByteArray.empty,0,er)) := hid (by unfold decS;rw [hg,if_pos (by rcases he with rfl | rfl <;> simp)])
  have hne : ((er : Int) == 0) = false := by rcases he with rfl | rfl <;> rfl
  have hne2 : er ≠ 0 := by rcases he with rfl | rfl <;> decide
  clear hg hl hlen he
  go_enter Tryz.func85,Tryz.ntmps85
  go_wp2_with (go_at_call 92;(with_reducible refine (count1_any l _ n _ w HL.out hby hnc hc).mono ?_);rintro e w' ⟨⟨a,b0,rfl,hab⟩,rfl⟩;rw [HC.out] at hab;rw [HC.out];clear hab)
  go_ret3
  exact ⟨by rw [HD.out];rfl,rfl⟩
 ·have HC := hid hg
  obtain ⟨S,hS⟩ : ∃ S,S = strOf ((l.drop k).take m) := ⟨_,rfl⟩
  have HD : Hid (decS l = (S,(k : Int) + m,0)) := hid (by unfold decS;rw [hg,hS];simp)
  have HS := hid hS
  obtain ⟨b,o,rfl,_,_⟩ := hl.2 (by omega)
  have HRS : Hid (Rd w w.heap.size (some ⟨b,o + k,none⟩) m (u8s ((l.drop k).take m))) := hid (by rw [← u8s_dt];exact hl.slice k m (by omega))
  have HCV : Hid (∀ W,Rd W w.heap.size (some ⟨b,o + k,none⟩) m (u8s ((l.drop k).take m)) → (convert 49 9 (.slice (some ⟨b,o + k,none⟩) m (c - k))).run Tryz.prog W = .ok (.string S) W) := hid (fun W h => by
   rw [HS.out]
   exact run_toStr (P := Tryz.prog) Tryz.underlying49 Tryz.underlying5 Tryz.underlying9 h (c - k) (fun _ => Or.inr ⟨_,rfl⟩))
  have hk1 : k + m ≤ n := by omega
  have HN : Hid (m = 0 → S = ⟨#[]⟩) := hid (fun h => by rw [HS.out,h];rfl)
  have HCV0 : Hid (∀ W A1 c1,(convert 49 9 (.slice A1 0 c1)).run Tryz.prog W = .ok (.string ⟨#[]⟩) W) := hid (fun W A1 c1 =>
   run_toStr (P := Tryz.prog) Tryz.underlying49 Tryz.underlying5 Tryz.underlying9 (l := []) (Rd.nil W 0 A1) c1 (fun _ => by cases A1 <;> simp))
  clear hg hl hlen henc hk hS
  by_cases hkc : k = c
  ·obtain rfl : m = 0 := by omega
   have HN2 := hid (HN.out rfl)
   have hcv := HCV0.out
   subst hkc
   go_enter Tryz.func85,Tryz.ntmps85
   go_wp2_with (go_at_call 92;(with_reducible refine (count1_any l _ n _ w HL.out hby hnc hc).mono ?_);rintro e w' ⟨⟨a,b0,rfl,hab⟩,rfl⟩;rw [HC.out] at hab;rw [HC.out];obtain ⟨rfl,rfl⟩ := hab rfl)
   go_ret3
   exact ⟨by rw [HD.out,HN2.out];first | rfl | simp [tupS],rfl⟩
  ·go_enter Tryz.func85,Tryz.ntmps85
   go_wp2_with (go_at_call 92;(with_reducible refine (count1_any l _ n _ w HL.out hby hnc hc).mono ?_);rintro e w' ⟨⟨a,b0,rfl,hab⟩,rfl⟩;rw [HC.out] at hab;rw [HC.out];obtain ⟨rfl,rfl⟩ := hab rfl;have hcv := HCV.out w HRS.out)
   go_ret3
   exact ⟨by rw [HD.out];rfl,rfl⟩
end Go.Proofs.YtojcmcccahjphaaGreatDoor
/- The walks of the encoders of lists of integers and of texts,of the code and of the reference. No condition beyond bounds on the sizes. -/
namespace Go.Proofs.YtojcmcccahjphaaGreatDoor
open Go.RowKit
open Lib (hid)
def encL {α : Type} (f : α → List Int) (l : List α) : List Int := encInt l.length ++ l.flatMap f
def encTo {α : Type} (f : α → List Int) (l : List α) (t : Nat) : List Int := encInt l.length ++ (l.take t).flatMap f
theorem encTo_succ {α : Type} (f : α → List Int) (l : List α) (t : Nat) (d : α) (h : t < l.length) : encTo f l (t + 1) = encTo f l t ++ f (l.getD t d) := by
 have : l[t]? = some (l.getD t d) := by simp [List.getD_eq_getElem?_getD,List.getElem?_eq_getElem h]
 unfold encTo
 rw [List.take_add_one,this,List.flatMap_append]
 simp
theorem encTo_full {α : Type} (f : α → List Int) (l : List α) : encTo f l l.length = encL f l := by unfold encTo encL;rw [List.take_length]
theorem encTo_le {α : Type} (f : α → List Int) (l : List α) (t : Nat) : (encTo f l t).length ≤ (encL f l).length := by
 unfold encTo encL
 rw [List.length_append,List.length_append]
 have : (l.flatMap f).length = ((l.take t).flatMap f).length + ((l.drop t).flatMap f).length := by
  rw [← List.length_append,← List.flatMap_append,List.take_append_drop]
 omega
theorem getD_mem {α : Type} {l : List α} {t : Nat} (d : α) (h : t < l.length) : l.getD t d ∈ l := by
 rw [List.getD_eq_getElem?_getD,List.getElem?_eq_getElem h];exact List.getElem_mem h
theorem wintL_any (n : Int) (w : World) (h0 : -9223372036854775808 ≤ n) (h1 : n ≤ 9223372036854775807) :
  Calls Tryz.prog 52 #[.int .i64 n] w fun e w' => (∃ A c,e = .returned (.slice A (encInt n).length c) ∧ w'.ownsRow w.heap.size 5 1 (.slice A (encInt n).length c) (encInt n).length (u8s (encInt n))) ∧ Below w.heap.size w w' := by
 rw [encInt_length];exact wint_any n w h0 h1
theorem rintL_any (n : Int) (w : World) (h0 : -9223372036854775808 ≤ n) (h1 : n ≤ 9223372036854775807) :
  Calls Tryz.prog 61 #[.int .i64 n] w fun e w' => (∃ A c,e = .returned (.slice A (encInt n).length c) ∧ w'.ownsRow w.heap.size 5 1 (.slice A (encInt n).length c) (encInt n).length (u8s (encInt n))) ∧ Below w.heap.size w w' := by
 rw [encInt_length];exact rint_any n w h0 h1
theorem encInt_le9 (n : Int) (h0 : -9223372036854775808 ≤ n) (h1 : n ≤ 9223372036854775807) : (encInt n).length ≤ 9 := by
 rw [encInt_length]
 have := blen_le (mag n) (mag_lt8 n h0 h1)
 omega
theorem ints_any (l : List Int) (A : Option Addr) (n c : Nat) (w : World) (hl : Rd w w.heap.size A n (l.map (Value.int .i64))) (hwf : ∀ x ∈ l,-9223372036854775808 ≤ x ∧ x ≤ 9223372036854775807) (hcat : (encL encInt l).length ≤ 100000000000) (hn : n ≤ 9223372036854775807) :
  Calls Tryz.prog 50 #[.slice A n c] w fun e w' => (∃ A' c',e = .returned (.slice A' (encL encInt l).length c') ∧ w'.ownsRow w.heap.size 5 1 (.slice A' (encL encInt l).length c') (encL encInt l).length (u8s (encL encInt l))) ∧ Below w.heap.size w w' := by
 obtain ⟨i0,hi,hz0,hz1,hz2⟩ := info_parts winfo_u8
 have hlen : l.length = n := by simpa using hl.1
 have HCAT : Hid (∀ t,(encTo encInt l t).length ≤ 100000000000) := hid (fun t => Nat.le_trans (encTo_le _ l t) hcat)
 have HL := hid hl
 have HN := hid hlen
 have HT0 : Hid (encTo encInt l 0 = encInt n) := hid (by unfold encTo;rw [hlen];simp)
 have HTN : Hid (encTo encInt l n = encL encInt l) := hid (by rw [← hlen];exact encTo_full _ l)
 have HWF := hid hwf
 have hn0 : (-9223372036854775808 : Int) ≤ (n : Int) := by omega
 have hn1 : (n : Int) ≤ 9223372036854775807 := by omega
 clear hl hlen hcat hwf
 go_enter Tryz.func50,Tryz.ntmps50
 go_wp2_with (go_at_call 52;(with_reducible refine (wintL_any (n : Int) w hn0 hn1).mono ?_);rintro e w1 ⟨⟨A1,c1,rfl,hown1⟩,hB1⟩)
 go_loopw [11,3] (fun i s5 wr => ∃ (t : Nat) (A : Option Addr) (c m : Nat),t ≤ n ∧ i = .int .i64 t ∧ s5 = .slice A m c ∧ m = (encTo encInt l t).length ∧ wr.ownsRow w.heap.size 5 1 (.slice A m c) m (u8s (encTo encInt l t)) ∧ Below w.heap.size w wr)
  (fun i _ _ => n - (intOf i).toNat)
 case atStart => exact ⟨0,_,_,_,Nat.zero_le _,rfl,rfl,by rw [HT0.out],by rw [HT0.out];exact hown1,hB1⟩
 case round =>
  clear hown1 hB1
  obtain ⟨t,A2,c2,m,ht,rfl,rfl,hm,hown,hB⟩ := hrel
  have hs := hB.size
  by_cases hlt : t < n
  ·obtain ⟨b,o,rfl,hb,hc⟩ := rd_vals 0 HL.out (by omega)
   have c0 := (hB.cell (p := ⟨b,o + t,none⟩) hb).trans (hc t hlt)
   have hx := HWF.out _ (getD_mem 0 (by rw [HN.out];exact hlt : t < l.length))
   have hT := encTo_succ encInt l t 0 (by rw [HN.out];exact hlt)
   have hsz := HCAT.out (t + 1)
   rw [hT,List.length_append] at hsz
   have hm2 : m + (encInt (l.getD t 0)).length ≤ 100000000000 := by rw [hm];exact hsz
   have HT := hid hT
   have HM := hid hm
   clear hc hT hsz hm
   generalize l.getD t 0 = x at *
   go_wp2_with (first
    | (go_at_call 52;refine (wintL_any x _ hx.1 hx.2).mono ?_;rintro e w1 ⟨⟨A3,c3,rfl,hown3⟩,hB3⟩;have hs3 := hB3.size;have HR3 := hid (RdN.of_Rd (Rd.of_own hown3));have hownk := own_below hown hB3;clear hown hown3)
    | (at_builtin;refine wpList_app rfl (.tmp 15) (.tmp 17) 49 rfl w.heap.size 5 i0 (.int .u8 0) 1 1 Tryz.underlying49 hi hz0 hz1 hz2 rfl (by omega) A2 m c2 _ rfl hownk w1.heap.size _ _ c3 _ rfl HR3.out (u8s_one _) (by simp only [maxLen];omega) (by omega) (by omega) ?_;intro A4 c4 w4 hown4 hg4;have hb4 := below_app (hB.trans (hB3.mono hs)) hg4 hownk (Nat.le_refl _) (by omega)))
   all_goals go_roundw
   case rel => exact ⟨t + 1,A4,c4,_,by omega,by go_num,rfl,by rw [HT.out,List.length_append,HM.out],by rw [HT.out,u8s_append];exact hown4,hb4⟩
   case measure => simp [intOf];omega
  ·obtain rfl : t = n := by omega
   have HM := hid hm
   clear hm
   go_wp2_with fail
   go_ret
   rw [HM.out,HTN.out] at hown
   exact ⟨⟨A2,c2,by rw [HM.out,HTN.out];rfl,hown⟩,hB⟩
theorem rints_any (l : List Int) (A : Option Addr) (n c : Nat) (w : World) (hl : Rd w w.heap.size A n (l.map (Value.int .i64))) (hwf : ∀ x ∈ l,-9223372036854775808 ≤ x ∧ x ≤ 9223372036854775807) (hcat : (encL encInt l).length ≤ 100000000000) (hn : n ≤ 9223372036854775807) :
  Calls Tryz.prog 60 #[.slice A n c] w fun e w' => (∃ A' c',e = .returned (.slice A' (encL encInt l).length c') ∧ w'.ownsRow w.heap.size 5 1 (.slice A' (encL encInt l).length c') (encL encInt l).length (u8s (encL encInt l))) ∧ Below w.heap.size w w' := by
 obtain ⟨i0,hi,hz0,hz1,hz2⟩ := info_parts winfo_u8
 have hlen : l.length = n := by simpa using hl.1
 have HCAT : Hid (∀ t,(encTo encInt l t).length ≤ 100000000000) := hid (fun t => Nat.le_trans (encTo_le _ l t) hcat)
 have HL := hid hl
 have HN := hid hlen
 have HT0 : Hid (encTo encInt l 0 = encInt n) := hid (by unfold encTo;rw [hlen];simp)
 have HTN : Hid (encTo encInt l n = encL encInt l) := hid (by rw [← hlen];exact encTo_full _ l)
 have HWF := hid hwf
 have hn0 : (-9223372036854775808 : Int) ≤ (n : Int) := by omega
 have hn1 : (n : Int) ≤ 9223372036854775807 := by omega
 clear hl hlen hcat hwf
 go_enter Tryz.func60,Tryz.ntmps60
 go_wp2_with (go_at_call 61;(with_reducible refine (rintL_any (n : Int) w hn0 hn1).mono ?_);rintro e w1 ⟨⟨A1,c1,rfl,hown1⟩,hB1⟩)
 go_loopw [4,3] (fun i s5 wr => ∃ (t : Nat) (A : Option Addr) (c m : Nat),t ≤ n ∧ i = .int .i64 t ∧ s5 = .slice A m c ∧ m = (encTo encInt l t).length ∧ wr.ownsRow w.heap.size 5 1 (.slice A m c) m (u8s (encTo encInt l t)) ∧ Below w.heap.size w wr)
  (fun i _ _ => n - (intOf i).toNat)
 case atStart => exact ⟨0,_,_,_,Nat.zero_le _,rfl,rfl,by rw [HT0.out],by rw [HT0.out];exact hown1,hB1⟩
 case round =>
  clear hown1 hB1
  obtain ⟨t,A2,c2,m,ht,rfl,rfl,hm,hown,hB⟩ := hrel
  have hs := hB.size
  by_cases hlt : t < n
  ·obtain ⟨b,o,rfl,hb,hc⟩ := rd_vals 0 HL.out (by omega)
   have c0 := (hB.cell (p := ⟨b,o + t,none⟩) hb).trans (hc t hlt)
   have hx := HWF.out _ (getD_mem 0 (by rw [HN.out];exact hlt : t < l.length))
   have hT := encTo_succ encInt l t 0 (by rw [HN.out];exact hlt)
   have hsz := HCAT.out (t + 1)
   rw [hT,List.length_append] at hsz
   have hm2 : m + (encInt (l.getD t 0)).length ≤ 100000000000 := by rw [hm];exact hsz
   have HT := hid hT
   have HM := hid hm
   clear hc hT hsz hm
   generalize l.getD t 0 = x at *
   go_wp2_with (first
    | (go_at_call 61;refine (rintL_any x _ hx.1 hx.2).mono ?_;rintro e w1 ⟨⟨A3,c3,rfl,hown3⟩,hB3⟩;have hs3 := hB3.size;have HR3 := hid (RdN.of_Rd (Rd.of_own hown3));have hownk := own_below hown hB3;clear hown hown3)
    | (at_builtin;refine wpList_app rfl (.tmp 14) (.tmp 19) 49 rfl w.heap.size 5 i0 (.int .u8 0) 1 1 Tryz.underlying49 hi hz0 hz1 hz2 rfl (by omega) A2 m c2 _ rfl hownk w1.heap.size _ _ c3 _ rfl HR3.out (u8s_one _) (by simp only [maxLen];omega) (by omega) (by omega) ?_;intro A4 c4 w4 hown4 hg4;have hb4 := below_app (hB.trans (hB3.mono hs)) hg4 hownk (Nat.le_refl _) (by omega)))
   all_goals go_roundw
   case rel => exact ⟨t + 1,A4,c4,_,by omega,by go_num,rfl,by rw [HT.out,List.length_append,HM.out],by rw [HT.out,u8s_append];exact hown4,hb4⟩
   case measure => simp [intOf];omega
  ·obtain rfl : t = n := by omega
   have HM := hid hm
   clear hm
   go_wp2_with fail
   go_ret
   rw [HM.out,HTN.out] at hown
   exact ⟨⟨A2,c2,by rw [HM.out,HTN.out];rfl,hown⟩,hB⟩
theorem strings_any (l : List ByteArray) (A : Option Addr) (n c : Nat) (w : World) (hl : Rd w w.heap.size A n (l.map (Value.string))) (hwf : ∀ x ∈ l,x.size ≤ 1000000000000) (hcat : (encL encB l).length ≤ 100000000000) (hn : n ≤ 9223372036854775807) :
  Calls Tryz.prog 56 #[.slice A n c] w fun e w' => (∃ A' c',e = .returned (.slice A' (encL encB l).length c') ∧ w'.ownsRow w.heap.size 5 1 (.slice A' (encL encB l).length c') (encL encB l).length (u8s (encL encB l))) ∧ Below w.heap.size w w' := by
 obtain ⟨i0,hi,hz0,hz1,hz2⟩ := info_parts winfo_u8
 have hlen : l.length = n := by simpa using hl.1
 have HCAT : Hid (∀ t,(encTo encB l t).length ≤ 100000000000) := hid (fun t => Nat.le_trans (encTo_le _ l t) hcat)
 have HL := hid hl
 have HN := hid hlen
 have HT0 : Hid (encTo encB l 0 = encInt n) := hid (by unfold encTo;rw [hlen];simp)
 have HTN : Hid (encTo encB l n = encL encB l) := hid (by rw [← hlen];exact encTo_full _ l)
 have HWF := hid hwf
 have hn0 : (-9223372036854775808 : Int) ≤ (n : Int) := by omega
 have hn1 : (n : Int) ≤ 9223372036854775807 := by omega
 clear hl hlen hcat hwf
 go_enter Tryz.func56,Tryz.ntmps56
 go_wp2_with (go_at_call 52;(with_reducible refine (wintL_any (n : Int) w hn0 hn1).mono ?_);rintro e w1 ⟨⟨A1,c1,rfl,hown1⟩,hB1⟩)
 go_loopw [11,3] (fun i s5 wr => ∃ (t : Nat) (A : Option Addr) (c m : Nat),t ≤ n ∧ i = .int .i64 t ∧ s5 = .slice A m c ∧ m = (encTo encB l t).length ∧ wr.ownsRow w.heap.size 5 1 (.slice A m c) m (u8s (encTo encB l t)) ∧ Below w.heap.size w wr)
  (fun i _ _ => n - (intOf i).toNat)
 case atStart => exact ⟨0,_,_,_,Nat.zero_le _,rfl,rfl,by rw [HT0.out],by rw [HT0.out];exact hown1,hB1⟩
 case round =>
  clear hown1 hB1
  obtain ⟨t,A2,c2,m,ht,rfl,rfl,hm,hown,hB⟩ := hrel
  have hs := hB.size
  by_cases hlt : t < n
  ·obtain ⟨b,o,rfl,hb,hc⟩ := rd_vals ByteArray.empty HL.out (by omega)
   have c0 := (hB.cell (p := ⟨b,o + t,none⟩) hb).trans (hc t hlt)
   have hx := HWF.out _ (getD_mem ByteArray.empty (by rw [HN.out];exact hlt : t < l.length))
   have hT := encTo_succ encB l t ByteArray.empty (by rw [HN.out];exact hlt)
   have hsz := HCAT.out (t + 1)
   rw [hT,List.length_append] at hsz
   have hm2 : m + (encB (l.getD t ByteArray.empty)).length ≤ 100000000000 := by rw [hm];exact hsz
   have HT := hid hT
   have HM := hid hm
   clear hc hT hsz hm
   generalize l.getD t ByteArray.empty = x at *
   go_wp2_with (first
    | (go_at_call 55;refine (wbytes_any x _ hx).mono ?_;rintro e w1 ⟨⟨A3,c3,rfl,hown3⟩,hB3⟩;have hs3 := hB3.size;have HR3 := hid (RdN.of_Rd (Rd.of_own hown3));have hownk := own_below hown hB3;clear hown hown3)
    | (at_builtin;refine wpList_app rfl (.tmp 15) (.tmp 17) 49 rfl w.heap.size 5 i0 (.int .u8 0) 1 1 Tryz.underlying49 hi hz0 hz1 hz2 rfl (by omega) A2 m c2 _ rfl hownk w1.heap.size _ _ c3 _ rfl HR3.out (u8s_one _) (by simp only [maxLen];omega) (by omega) (by omega) ?_;intro A4 c4 w4 hown4 hg4;have hb4 := below_app (hB.trans (hB3.mono hs)) hg4 hownk (Nat.le_refl _) (by omega)))
   all_goals go_roundw
   case rel => exact ⟨t + 1,A4,c4,_,by omega,by go_num,rfl,by rw [HT.out,List.length_append,HM.out],by rw [HT.out,u8s_append];exact hown4,hb4⟩
   case measure => simp [intOf];omega
  ·obtain rfl : t = n := by omega
   have HM := hid hm
   clear hm
   go_wp2_with fail
   go_ret
   rw [HM.out,HTN.out] at hown
   exact ⟨⟨A2,c2,by rw [HM.out,HTN.out];rfl,hown⟩,hB⟩
theorem rstrings_any (l : List ByteArray) (A : Option Addr) (n c : Nat) (w : World) (hl : Rd w w.heap.size A n (l.map (Value.string))) (hwf : ∀ x ∈ l,x.size ≤ 1000000000000) (hcat : (encL encB l).length ≤ 100000000000) (hn : n ≤ 9223372036854775807) :
  Calls Tryz.prog 66 #[.slice A n c] w fun e w' => (∃ A' c',e = .returned (.slice A' (encL encB l).length c') ∧ w'.ownsRow w.heap.size 5 1 (.slice A' (encL encB l).length c') (encL encB l).length (u8s (encL encB l))) ∧ Below w.heap.size w w' := by
 obtain ⟨i0,hi,hz0,hz1,hz2⟩ := info_parts winfo_u8
 have hlen : l.length = n := by simpa using hl.1
 have HCAT : Hid (∀ t,(encTo encB l t).length ≤ 100000000000) := hid (fun t => Nat.le_trans (encTo_le _ l t) hcat)
 have HL := hid hl
 have HN := hid hlen
 have HT0 : Hid (encTo encB l 0 = encInt n) := hid (by unfold encTo;rw [hlen];simp)
 have HTN : Hid (encTo encB l n = encL encB l) := hid (by rw [← hlen];exact encTo_full _ l)
 have HWF := hid hwf
 have hn0 : (-9223372036854775808 : Int) ≤ (n : Int) := by omega
 have hn1 : (n : Int) ≤ 9223372036854775807 := by omega
 clear hl hlen hcat hwf
 go_enter Tryz.func66,Tryz.ntmps66
 go_wp2_with (go_at_call 61;(with_reducible refine (rintL_any (n : Int) w hn0 hn1).mono ?_);rintro e w1 ⟨⟨A1,c1,rfl,hown1⟩,hB1⟩)
 go_loopw [4,3] (fun i s5 wr => ∃ (t : Nat) (A : Option Addr) (c m : Nat),t ≤ n ∧ i = .int .i64 t ∧ s5 = .slice A m c ∧ m = (encTo encB l t).length ∧ wr.ownsRow w.heap.size 5 1 (.slice A m c) m (u8s (encTo encB l t)) ∧ Below w.heap.size w wr)
  (fun i _ _ => n - (intOf i).toNat)
 case atStart => exact ⟨0,_,_,_,Nat.zero_le _,rfl,rfl,by rw [HT0.out],by rw [HT0.out];exact hown1,hB1⟩
 case round =>
  clear hown1 hB1
  obtain ⟨t,A2,c2,m,ht,rfl,rfl,hm,hown,hB⟩ := hrel
  have hs := hB.size
  by_cases hlt : t < n
  ·obtain ⟨b,o,rfl,hb,hc⟩ := rd_vals ByteArray.empty HL.out (by omega)
   have c0 := (hB.cell (p := ⟨b,o + t,none⟩) hb).trans (hc t hlt)
   have hx := HWF.out _ (getD_mem ByteArray.empty (by rw [HN.out];exact hlt : t < l.length))
   have hT := encTo_succ encB l t ByteArray.empty (by rw [HN.out];exact hlt)
   have hsz := HCAT.out (t + 1)
   rw [hT,List.length_append] at hsz
   have hm2 : m + (encB (l.getD t ByteArray.empty)).length ≤ 100000000000 := by rw [hm];exact hsz
   have HT := hid hT
   have HM := hid hm
   clear hc hT hsz hm
   generalize l.getD t ByteArray.empty = x at *
   go_wp2_with (first
    | (go_at_call 63;refine (rbytes_any x _ hx).mono ?_;rintro e w1 ⟨⟨A3,c3,rfl,hown3⟩,hB3⟩;have hs3 := hB3.size;have HR3 := hid (RdN.of_Rd (Rd.of_own hown3));have hownk := own_below hown hB3;clear hown hown3)
    | (at_builtin;refine wpList_app rfl (.tmp 14) (.tmp 19) 49 rfl w.heap.size 5 i0 (.int .u8 0) 1 1 Tryz.underlying49 hi hz0 hz1 hz2 rfl (by omega) A2 m c2 _ rfl hownk w1.heap.size _ _ c3 _ rfl HR3.out (u8s_one _) (by simp only [maxLen];omega) (by omega) (by omega) ?_;intro A4 c4 w4 hown4 hg4;have hb4 := below_app (hB.trans (hB3.mono hs)) hg4 hownk (Nat.le_refl _) (by omega)))
   all_goals go_roundw
   case rel => exact ⟨t + 1,A4,c4,_,by omega,by go_num,rfl,by rw [HT.out,List.length_append,HM.out],by rw [HT.out,u8s_append];exact hown4,hb4⟩
   case measure => simp [intOf];omega
  ·obtain rfl : t = n := by omega
   have HM := hid hm
   clear hm
   go_wp2_with fail
   go_ret
   rw [HM.out,HTN.out] at hown
   exact ⟨⟨A2,c2,by rw [HM.out,HTN.out];rfl,hown⟩,hB⟩
end Go.Proofs.YtojcmcccahjphaaGreatDoor
/- The walks of the decoders of lists,of the code and of the reference. No condition beyond a bound on the length. -/
namespace Go.Proofs.YtojcmcccahjphaaGreatDoor
open Go.RowKit
open Lib (hid)
theorem winfo_int : (Tryz.prog.info? 3).map (fun i => (i.zero,i.size,i.bytes)) = some (some (.int .i64 0),1,8) := by kernel_rfl
theorem winfo_str : (Tryz.prog.info? 9).map (fun i => (i.zero,i.size,i.bytes)) = some (some (.string ⟨#[]⟩),1,16) := by kernel_rfl
theorem decList_err0 {α : Type} (one : List Int → α × Int × Int) (l : List Int) (er : Int) (h : cntI l 1 = (0,0,er)) (he : er ≠ 0) : decList one l = ([],0,er) := by
 unfold decList;rw [h,if_pos he]
theorem decList_err1 {α : Type} (one : List Int → α × Int × Int) (l : List Int) (m k : Nat) (er : Int) (h : cntI l 1 = ((m : Int),(k : Int),0)) (he : er ≠ 0) (hd : (decMany one m (l.drop k)).1 = er) : decList one l = ([],0,er) := by
 unfold decList;rw [h];simp [hd,he]
theorem decList_ok {α : Type} (one : List Int → α × Int × Int) (l : List Int) (m k p : Nat) (xs : List α) (h : cntI l 1 = ((m : Int),(k : Int),0)) (hd : decMany one m (l.drop k) = joinD xs (p - k) (0,[],0)) (hp : k ≤ p) : decList one l = (xs,(p : Int),0) := by
 unfold decList;rw [h];simp [hd,joinD];omega
theorem rd_rest {w : World} {B b o n : Nat} {l : List Int} (h : Rd w B (some ⟨b,o,none⟩) n (u8s l)) (p : Nat) (hp : p ≤ n) : Rd w B (some ⟨b,o + p,none⟩) (n - p) (u8s (l.drop p)) := by
 have := h.slice p (n - p) (by omega)
 have hl : l.length = n := by simpa [u8s] using h.1
 rw [u8s_dt,List.take_of_length_le (by rw [List.length_drop];omega)] at this
 exact this
theorem gstrings_any (l : List Int) (A0 : Option Addr) (n c : Nat) (w : World) (hl : Rd w w.heap.size A0 n (u8s l)) (hby : Byt l) (hnc : n ≤ c) (hc : c ≤ 9223372036854775807) (hn : n ≤ 1000000000000) :
  Calls Tryz.prog 94 #[.slice A0 n c] w fun e w' => (∃ A' c',e = .returned (.tuple #[.slice A' (decList decS l).1.length c',.int .i64 (decList decS l).2.1,.int .i64 (decList decS l).2.2]) ∧
   w'.ownsRow w.heap.size 9 1 (.slice A' (decList decS l).1.length c') (decList decS l).1.length ((decList decS l).1.map (Value.string))) ∧ Below w.heap.size w w' := by
 obtain ⟨i0,hi,hz0,hz1,hz2⟩ := info_parts winfo_str
 have hlen : l.length = n := by simpa [u8s] using hl.1
 have HL := hid hl
 rcases cntI_cases l hby 1 (Nat.le_refl _) with ⟨er,hg,he⟩ | ⟨m,k,hg,h1,h9,hk,hm,henc⟩
 ·have HC := hid hg
  have hne2 : er ≠ 0 := by rcases he with rfl | rfl <;> decide
  have HD : Hid (decList decS l = ([],0,er)) := hid (decList_err0 _ l er hg hne2)
  have hne : ((er : Int) == 0) = false := by rcases he with rfl | rfl <;> rfl
  clear hg hl hlen he
  go_enter Tryz.func94,Tryz.ntmps94
  go_wp2_with (go_at_call 92;(with_reducible refine (count1_any l _ n _ w HL.out hby hnc hc).mono ?_);rintro e w0 ⟨⟨a,b0,rfl,hab⟩,rfl⟩;rw [HC.out] at hab;rw [HC.out];(first | (obtain ⟨rfl,rfl⟩ := hab rfl) | clear hab);have HB0 : Hid (Ext w w) := hid (Ext.refl w))
  go_ret3
  exact ⟨⟨none,0,by rw [HD.out];rfl,by rw [HD.out];exact World.ownsRow_nil _ _ _ _⟩,HB0.out⟩
 ·have HC := hid hg
  obtain ⟨b,o,rfl,hb,_⟩ := hl.2 (by omega)
  have HLEN := hid hlen
  have hk1 : k + m ≤ n := by omega
  clear hg hl hlen henc hk
  go_enter Tryz.func94,Tryz.ntmps94
  go_wp2_with (go_at_call 92;(with_reducible refine (count1_any l _ n _ w HL.out hby hnc hc).mono ?_);rintro e w0 ⟨⟨a,b0,rfl,hab⟩,rfl⟩;rw [HC.out] at hab;rw [HC.out];(first | (obtain ⟨rfl,rfl⟩ := hab rfl) | clear hab);have HB0 : Hid (Ext w w) := hid (Ext.refl w))
  go_loopw [22,6,8] (fun i s6 s8 wr => ∃ (t p : Nat) (xs : List ByteArray) (A : Option Addr) (c' : Nat),t ≤ m ∧ i = .int .i64 t ∧ s6 = .int .i64 p ∧ s8 = .slice A t c' ∧ k ≤ p ∧ p ≤ n ∧ wr.ownsRow w.heap.size 9 1 (.slice A t c') t (xs.map (Value.string)) ∧ Hid (xs.length = t) ∧
    Hid (decMany decS m (l.drop k) = joinD xs (p - k) (decMany decS (m - t) (l.drop p))) ∧ Below w.heap.size w wr)
   (fun i _ _ _ => m - (intOf i).toNat)
  case atStart => exact ⟨0,k,[],none,0,Nat.zero_le _,rfl,rfl,rfl,Nat.le_refl _,by omega,World.ownsRow_nil _ _ _ _,hid rfl,hid (by simp [joinD]),HB0.out⟩
  case round =>
   obtain ⟨t,p,xs,A,c',ht,rfl,rfl,rfl,hkp,hpn,hown,HXL,HJ,hB⟩ := hrel
   have hs := hB.size
   by_cases hlt : t < m
   ·have hby2 : Byt (l.drop p) := hby.drop p
    have HBE : Hid (Ext w wr) := hid hB
    have HRR : Hid (Rd wr wr.heap.size (some ⟨b,o + p,none⟩) (n - p) (u8s (l.drop p))) := hid ((rd_rest HL.out p hpn).ext' hB)
    have HR0 : Hid (n - p = 0 → Rd wr wr.heap.size (some ⟨b,o,none⟩) 0 (u8s (l.drop p))) := hid (fun h => by
     rw [List.drop_of_length_le (by rw [HLEN.out];omega)];exact Rd.nil _ _ _)
    have HJS : Hid (∀ (x : ByteArray) (u : Nat),decS (l.drop p) = (x,(u : Int),0) → decMany decS m (l.drop k) = joinD (xs ++ [x]) (p + u - k) (decMany decS (m - (t + 1)) (l.drop (p + u)))) := hid (fun x u h => by
     have e : m - t = (m - (t + 1)) + 1 := by omega
     rw [HJ.out,e,joinD_step decS _ _ xs _ u x h,List.drop_drop]
     congr 1
     omega)
    have HJE : Hid (∀ er : Int,er ≠ 0 → (decS (l.drop p)).2.2 = er → decList decS l = ([],0,er)) := hid (fun er he h => by
     have e : m - t = (m - (t + 1)) + 1 := by omega
     refine decList_err1 _ l m k er HC.out he ?_
     rw [HJ.out,e]
     exact joinD_err _ _ _ _ _ er he h)
    have hc2 : c - p ≤ 9223372036854775807 := by omega
    have hnn : n - p ≤ c - p := by omega
    have hn2 : n - p ≤ 1000000000000 := by omega
    rcases decS_cases (l.drop p) hby2 with ⟨er,hg,he⟩ | ⟨x,k2,u,hg,-,-,-,hu1,-,-,hul,-⟩
    ·have HG := hid hg
     have hne : ((er : Int) == 0) = false := by rcases he with rfl | rfl <;> rfl
     have hne2 : er ≠ 0 := by rcases he with rfl | rfl <;> decide
     have HD := hid (HJE.out er hne2 (by rw [hg]))
     clear hg he hown hB
     by_cases hpc : p = c
     ·have HR1 := hid (HR0.out (by omega))
      have hpn2 : n = p := by omega
      clear hnn hc2 hn2
      subst hpn2
      have hz0' : (0 : Nat) ≤ 1000000000000 := by omega
      have hz1' : (0 : Nat) ≤ 9223372036854775807 := by omega
      have hz2' : (0 : Nat) ≤ 0 := Nat.le_refl _
      subst hpc
      go_wp2_with (go_at_call 85;(with_reducible refine (gbytes_any (l.drop n) _ 0 0 wr HR1.out hby2 hz2' hz1' hz0').mono ?_);rintro e w1 ⟨rfl,rfl⟩;rw [HG.out];unfold tupS;have HB3 : Hid (Ext wr wr) := hid (Ext.refl wr))
      go_ret3
      exact ⟨⟨none,0,by rw [HD.out];rfl,by rw [HD.out];exact World.ownsRow_nil _ _ _ _⟩,HBE.out.next HB3.out⟩
     ·go_wp2_with (go_at_call 85;(with_reducible refine (gbytes_any (l.drop p) _ (n - p) (c - p) wr HRR.out hby2 hnn hc2 hn2).mono ?_);rintro e w1 ⟨rfl,rfl⟩;rw [HG.out];unfold tupS;have HB3 : Hid (Ext wr wr) := hid (Ext.refl wr))
      go_ret3
      exact ⟨⟨none,0,by rw [HD.out];rfl,by rw [HD.out];exact World.ownsRow_nil _ _ _ _⟩,HBE.out.next HB3.out⟩
    ·have HG := hid hg
     have hul2 : p + u ≤ n := by rw [List.length_drop,HLEN.out] at hul;omega
     have HJ2 := hid (HJS.out x u hg)
     have HXL2 : Hid ((xs ++ [x]).length = t + 1) := hid (by rw [List.length_append,HXL.out];rfl)
     have hpc : ¬ p = c := by omega
     clear hg hul
     go_wp2_with (first
      | (go_at_call 85;(with_reducible refine (gbytes_any (l.drop p) _ (n - p) (c - p) wr HRR.out hby2 hnn hc2 hn2).mono ?_);rintro e w1 ⟨rfl,rfl⟩;rw [HG.out];unfold tupS;have HB3 : Hid (Ext wr wr) := hid (Ext.refl wr);have hownk := own_below hown HB3.out;have hs3 := HB3.out.size;clear hown)
      | (at_builtin;refine wpList_app rfl (.tmp 35) (.tmp 37) 28 rfl w.heap.size 9 i0 (.string ⟨#[]⟩) 1 16 Tryz.underlying28 hi hz0 hz1 hz2 rfl (by omega) A t c' _ rfl (hownk.alloc _) (wr.heap.size + 1) _ 1 1 [.string x] rfl (RdN.fresh [.string x] _ _ 1 1 rfl rfl rfl) (by intro u hu;rw [List.mem_singleton] at hu;subst hu;rfl) (by simp only [maxLen];omega) (by omega) (by simp;omega) ?_;intro A4 c4 w4 hown4 hg4;have hb4 := below_app (Ext.alloc (HBE.out.next HB3.out) _) hg4 (hownk.alloc _) (Nat.le_refl _) (by simp;omega)))
     go_roundw
     case rel => exact ⟨t + 1,p + u,xs ++ [x],A4,c4,by omega,by go_num,by go_num,rfl,by omega,by omega,by rw [List.map_append];exact hown4,HXL2,HJ2,hb4⟩
     case measure => simp [intOf];omega
   ·obtain rfl : t = m := by omega
    have HD : Hid (decList decS l = (xs,(p : Int),0)) := hid (decList_ok _ l t k p xs HC.out (by rw [HJ.out,Nat.sub_self];rfl) hkp)
    go_wp2_with fail
    go_ret3
    exact ⟨⟨A,c',by rw [HD.out,HXL.out];rfl,by rw [HD.out,HXL.out];exact hown⟩,hB⟩
end Go.Proofs.YtojcmcccahjphaaGreatDoor
/- The walks of the reader of integers and of wire.GetInts. No condition beyond a bound on the length. -/
namespace Go.Proofs.YtojcmcccahjphaaGreatDoor
open Go.RowKit
open Lib (hid)
theorem reader_any (A : Option Addr) (n c : Nat) (p : Int) (w : World) :
  Calls Tryz.prog 93 #[.slice A n c,.int .i64 p] w fun e w' => e = .returned (.func (Fn.func 100) #[] #[.pointer (some ⟨w.heap.size,0,none⟩),.pointer (some ⟨w.heap.size + 1,0,none⟩)]) ∧
   Blk w' w.heap.size 49 [.slice A n c] ∧ Blk w' (w.heap.size + 1) 3 [.int .i64 p] ∧ Below w.heap.size w w' := by
 go_enter Tryz.func93,Tryz.ntmps93
 go_wp2_with fail
 go_ret
 exact ⟨rfl,(Blk.fresh' _ _ _ _ _ rfl rfl).alloc _,Blk.fresh' _ _ _ _ _ rfl (by simp),(Ext.refl w).alloc _ |>.alloc _⟩
theorem grown_set (w : World) (g : Nat) (u : Value) : w.grownBy (w.setCell ⟨g,0,none⟩ u) (some g) :=
 ⟨rfl,rfl,rfl,by simp [World.setCell],fun k _ hk => Below.heap_setCell _ _ _ _ (fun h => hk (by rw [h]))⟩
theorem grown_drewN {w w' : World} {row : Option Nat} (h : w.grownBy w' row) (n : Nat) : w.grownBy (w'.drewN n) row := ⟨h.os,h.tape,h.output,h.size,h.block⟩
theorem next_any (l : List Int) (b o n c p pb pa : Nat) (w : World) (hl : Rd w w.heap.size (some ⟨b,o,none⟩) n (u8s l)) (hby : Byt l) (hnc : n ≤ c) (hc : c ≤ 9223372036854775807) (hpn : p ≤ n)
  (hB : Blk w pb 49 [.slice (some ⟨b,o,none⟩) n c]) (hP : Blk w pa 3 [.int .i64 p]) (v u er : Int) (hg : getI (l.drop p) = (v,u,er)) :
  Calls Tryz.prog 100 #[.pointer (some ⟨pb,0,none⟩),.pointer (some ⟨pa,0,none⟩)] w fun e w' => e = .returned (.tuple #[.int .i64 v,.int .i64 ((p : Int) + u),.int .i64 er]) ∧
   Blk w' pa 3 [.int .i64 ((p : Int) + u)] ∧ w.grownBy w' (some pa) := by
 have hlen : l.length = n := by simpa [u8s] using hl.1
 have hub : 0 ≤ u ∧ (p : Int) + u ≤ n := by
  rcases getI_cases (l.drop p) (hby.drop p) with ⟨er',hg',_⟩ | ⟨v',k,hg',_,_,hk,_,_,_⟩
  ·rw [hg] at hg'
   simp only [Prod.mk.injEq] at hg'
   obtain ⟨-,rfl,-⟩ := hg'
   omega
  ·rw [hg] at hg'
   simp only [Prod.mk.injEq] at hg'
   obtain ⟨-,rfl,-⟩ := hg'
   rw [List.length_drop] at hk
   omega
 obtain ⟨hu0,hu1⟩ := hub
 have HG := hid hg
 have HRR : Hid (Rd w w.heap.size (some ⟨b,o + p,none⟩) (n - p) (u8s (l.drop p))) := hid (rd_rest hl p hpn)
 have HR0 : Hid (n - p = 0 → Rd w w.heap.size (some ⟨b,o,none⟩) 0 (u8s (l.drop p))) := hid (fun h => by
  rw [List.drop_of_length_le (by omega)];exact Rd.nil _ _ _)
 have cb := hB.one
 have cp := hP.one
 have fp := hP.frozen 0
 have HP := hid hP
 have hby2 := hby.drop p
 have hc2 : c - p ≤ 9223372036854775807 := by omega
 have hnn : n - p ≤ c - p := by omega
 have hcell := fun u : Value => (HP.out.set 0 u).one
 clear hl hlen hg hB hP
 by_cases hpc : p = c
 ·have HR1 := hid (HR0.out (by omega))
  have hpn2 : n = p := by omega
  clear hnn hc2
  subst hpn2
  have hz1' : (0 : Nat) ≤ 9223372036854775807 := by omega
  have hz2' : (0 : Nat) ≤ 0 := Nat.le_refl _
  subst hpc
  go_enter Tryz.func100,Tryz.ntmps100
  go_upto_region 3 with (go_at_call 69;(with_reducible refine (gint_any (l.drop n) _ 0 0 w HR1.out hby2 hz2' hz1').mono ?_);rintro e w1 ⟨rfl,rfl⟩;rw [HG.out];unfold tup3)
  go_quiet (fail)
  go_wp2_with fail
  go_ret3
  exact ⟨rfl,(HP.out.set 0 _).drewN _,grown_drewN (grown_set w pa _) _⟩
 ·go_enter Tryz.func100,Tryz.ntmps100
  go_upto_region 3 with (go_at_call 69;(with_reducible refine (gint_any (l.drop p) _ (n - p) (c - p) w HRR.out hby2 hnn hc2).mono ?_);rintro e w1 ⟨rfl,rfl⟩;rw [HG.out];unfold tup3)
  go_quiet (fail)
  go_wp2_with fail
  go_ret3
  exact ⟨rfl,(HP.out.set 0 _).drewN _,grown_drewN (grown_set w pa _) _⟩
theorem gints_any (l : List Int) (A0 : Option Addr) (n c : Nat) (w : World) (hl : Rd w w.heap.size A0 n (u8s l)) (hby : Byt l) (hnc : n ≤ c) (hc : c ≤ 9223372036854775807) (hn : n ≤ 1000000000000) :
  Calls Tryz.prog 80 #[.slice A0 n c] w fun e w' => (∃ A' c',e = .returned (.tuple #[.slice A' (decList getI l).1.length c',.int .i64 (decList getI l).2.1,.int .i64 (decList getI l).2.2]) ∧
   w'.ownsRow w.heap.size 3 1 (.slice A' (decList getI l).1.length c') (decList getI l).1.length ((decList getI l).1.map (Value.int .i64))) ∧ Below w.heap.size w w' := by
 obtain ⟨i0,hi,hz0,hz1,hz2⟩ := info_parts winfo_int
 have hlen : l.length = n := by simpa [u8s] using hl.1
 have HL := hid hl
 rcases cntI_cases l hby 1 (Nat.le_refl _) with ⟨er,hg,he⟩ | ⟨m,k,hg,h1,h9,hk,hm,henc⟩
 ·have HC := hid hg
  have hne2 : er ≠ 0 := by rcases he with rfl | rfl <;> decide
  have HD : Hid (decList getI l = ([],0,er)) := hid (decList_err0 _ l er hg hne2)
  have hne : ((er : Int) == 0) = false := by rcases he with rfl | rfl <;> rfl
  clear hg hl hlen he
  go_enter Tryz.func80,Tryz.ntmps80
  go_wp2_with (go_at_call 92;(with_reducible refine (count1_any l _ n _ w HL.out hby hnc hc).mono ?_);rintro e w0 ⟨⟨a,b0,rfl,hab⟩,rfl⟩;rw [HC.out] at hab;rw [HC.out];clear hab)
  go_ret3
  exact ⟨⟨none,0,by rw [HD.out];rfl,by rw [HD.out];exact World.ownsRow_nil _ _ _ _⟩,Ext.refl w⟩
 ·have HC := hid hg
  obtain ⟨b,o,rfl,hb,_⟩ := hl.2 (by omega)
  have HLEN := hid hlen
  have hk1 : k + m ≤ n := by omega
  clear hg hl hlen henc hk
  go_enter Tryz.func80,Tryz.ntmps80
  go_wp2_with (first
   | (go_at_call 92;(with_reducible refine (count1_any l _ n _ w HL.out hby hnc hc).mono ?_);rintro e w0 ⟨⟨a,b0,rfl,hab⟩,rfl⟩;rw [HC.out] at hab;rw [HC.out];obtain ⟨rfl,rfl⟩ := hab rfl)
   | (go_at_call 93;(with_reducible refine (reader_any _ n c _ w).mono ?_);rintro e w1 ⟨rfl,hBB,hBP,hB1⟩;have HBB := hid hBB;have HBP := hid hBP;have HE1 : Hid (Ext w w1) := hid hB1;clear hBB hBP hB1))
  have hz1' := Below.size HE1.out
  go_loopw [26,6,9] (fun i s6 s8 wr => ∃ (t p : Nat) (xs : List Int) (A : Option Addr) (c' : Nat),t ≤ m ∧ i = .int .i64 t ∧ s6 = .int .i64 p ∧ s8 = .slice A t c' ∧ k ≤ p ∧ p ≤ n ∧ wr.ownsRow (w.heap.size + 2) 3 1 (.slice A t c') t (xs.map (Value.int .i64)) ∧ Hid (xs.length = t) ∧
    Hid (decMany getI m (l.drop k) = joinD xs (p - k) (decMany getI (m - t) (l.drop p))) ∧ Hid (Blk wr w.heap.size 49 [.slice (some ⟨b,o,none⟩) n c]) ∧ Hid (Blk wr (w.heap.size + 1) 3 [.int .i64 p]) ∧ Below w.heap.size w wr)
   (fun i _ _ _ => m - (intOf i).toNat)
  case atStart => exact ⟨0,k,[],none,0,Nat.zero_le _,rfl,rfl,rfl,Nat.le_refl _,by omega,World.ownsRow_nil _ _ _ _,hid rfl,hid (by simp [joinD]),HBB,HBP,HE1.out⟩
  case round =>
   clear HBB HBP
   obtain ⟨t,p,xs,A,c',ht,rfl,rfl,rfl,hkp,hpn,hown,HXL,HJ,HBB,HBP,hB⟩ := hrel
   have hs := hB.size
   have hsz2 := HBP.out.lt
   by_cases hlt : t < m
   ·have hby2 : Byt (l.drop p) := hby.drop p
    have HBE : Hid (Ext w wr) := hid hB
    have HRR : Hid (Rd wr wr.heap.size (some ⟨b,o,none⟩) n (u8s l)) := hid (HL.out.ext' hB)
    have HJS : Hid (∀ (x : Int) (u : Nat),getI (l.drop p) = (x,(u : Int),0) → decMany getI m (l.drop k) = joinD (xs ++ [x]) (p + u - k) (decMany getI (m - (t + 1)) (l.drop (p + u)))) := hid (fun x u h => by
     have e : m - t = (m - (t + 1)) + 1 := by omega
     rw [HJ.out,e,joinD_step getI _ _ xs _ u x h,List.drop_drop]
     congr 1
     omega)
    have HJE : Hid (∀ er : Int,er ≠ 0 → (getI (l.drop p)).2.2 = er → decList getI l = ([],0,er)) := hid (fun er he h => by
     have e : m - t = (m - (t + 1)) + 1 := by omega
     refine decList_err1 _ l m k er HC.out he ?_
     rw [HJ.out,e]
     exact joinD_err _ _ _ _ _ er he h)
    rcases getI_cases (l.drop p) hby2 with ⟨er,hg,he⟩ | ⟨x,u,hg,hu1,-,hul,-,-,-⟩
    ·have HG := hid hg
     have hne : ((er : Int) == 0) = false := by rcases he with rfl | rfl <;> rfl
     have hne2 : er ≠ 0 := by rcases he with rfl | rfl <;> decide
     have HD := hid (HJE.out er hne2 (by rw [hg]))
     clear hg he hown hB
     go_wp2_with (go_at_call 100;(with_reducible refine (next_any l b o n c p _ _ wr HRR.out hby hnc hc hpn HBB.out HBP.out 0 0 er HG.out).mono ?_);rintro e w2 ⟨rfl,hBP2,hg2⟩;have HB2 : Hid (Ext w w2) := hid (Below.grown HBE.out hg2 hs (fun k hk => (by injection hk with hk;omega)));clear hBP2 hg2)
     go_ret3
     exact ⟨⟨none,0,by rw [HD.out];rfl,by rw [HD.out];exact World.ownsRow_nil _ _ _ _⟩,HB2.out⟩
    ·have HG := hid hg
     have hul2 : p + u ≤ n := by rw [List.length_drop,HLEN.out] at hul;omega
     have HJ2 := hid (HJS.out x u hg)
     have HXL2 : Hid ((xs ++ [x]).length = t + 1) := hid (by rw [List.length_append,HXL.out];rfl)
     have HNE : Hid ((Value.slice A t c').ownBlock = none ∨ (Value.slice A t c').ownBlock ≠ some (w.heap.size + 1)) := hid (Or.inr (fun h => by have := (hown.lt _ h).1;omega))
     clear hg hul
     go_wp2_with (first
      | (go_at_call 100;(with_reducible refine (next_any l b o n c p _ _ wr HRR.out hby hnc hc hpn HBB.out HBP.out x u 0 HG.out).mono ?_);rintro e w2 ⟨rfl,hBP2,hg2⟩;have HB2 : Hid (Ext w w2) := hid (Below.grown HBE.out hg2 hs (fun k hk => (by injection hk with hk;omega)));have hownk := hown.kept hg2 HNE.out;have hs3 := hg2.size;have HBB2 := hid (HBB.out.grown hg2 (fun h => (by injection h with h;omega)));have HBP2 := hid hBP2;clear hown hBP2 hg2)
      | (at_builtin;refine wpList_app rfl (.tmp 37) (.tmp 39) 43 rfl (w.heap.size + 2) 3 i0 (.int .i64 0) 1 8 Tryz.underlying43 hi hz0 hz1 hz2 rfl (by omega) A t c' _ rfl (hownk.alloc _) (w2.heap.size + 1) _ 1 1 [.int .i64 x] rfl (RdN.fresh [.int .i64 x] _ _ 1 1 rfl rfl rfl) (by intro u hu;rw [List.mem_singleton] at hu;subst hu;rfl) (by simp only [maxLen];omega) (by omega) (by simp;omega) ?_;intro A4 c4 w4 hown4 hg4;have hb4 := below_app (Ext.alloc HB2.out _) hg4 (hownk.alloc _) (by omega) (by simp;omega);have HBB4 := hid ((HBB2.out.alloc (.cells #[.int .i64 x] 3)).grown hg4 (fun h => (by have := ((hownk.alloc (.cells #[.int .i64 x] 3)).lt _ h.symm).1;omega)));have HBP4 := hid ((HBP2.out.alloc (.cells #[.int .i64 x] 3)).grown hg4 (fun h => (by have := ((hownk.alloc (.cells #[.int .i64 x] 3)).lt _ h.symm).1;omega)))))
     go_roundw
     case rel => exact ⟨t + 1,p + u,xs ++ [x],A4,c4,by omega,by go_num,by go_num,rfl,by omega,by omega,by rw [List.map_append];exact hown4,HXL2,HJ2,HBB4,HBP4,hb4⟩
     case measure => simp [intOf];omega
   ·obtain rfl : t = m := by omega
    have HD : Hid (decList getI l = (xs,(p : Int),0)) := hid (decList_ok _ l t k p xs HC.out (by rw [HJ.out,Nat.sub_self];rfl) hkp)
    go_wp2_with fail
    go_ret3
    exact ⟨⟨A,c',by rw [HD.out,HXL.out];rfl,by rw [HD.out,HXL.out];exact hown.mono (by omega)⟩,hB⟩
end Go.Proofs.YtojcmcccahjphaaGreatDoor
