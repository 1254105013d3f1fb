/- The walks of wire.Int and the reference's Int: both hand back encInt. No condition. -/
import Derived.Test.YtojcmcccahjphaaGreatDoorProg
import Derived.Test.YtojcmcccahjphaaGreatDoorM1
import Derived.Deep.DeepCutAuto
import Derived.Deep.CutBlock
import Derived.Deep.Onto
import Derived.Deep.RegionWith
import Derived.Deep.QuietTactic
import Derived.BigQuiet
set_option linter.unusedSimpArgs false
set_option linter.unusedVariables false
set_option maxHeartbeats 16000000
set_option maxRecDepth 100000
namespace Go.Proofs.YtojcmcccahjphaaGreatDoor
open Go.RowKit
open Lib (hid)
theorem winfo_u8 : (Tryz.prog.info? 5).map (fun i => (i.zero,i.size,i.bytes)) = some (some (.int .u8 0),1,1) := by kernel_rfl
theorem wone_u8 (x : Int) : ∀ u ∈ [Value.int .u8 x],u.oneCell' = true := u8s_one [x]
theorem wint_any (n : Int) (w : World) (h0 : -9223372036854775808 ≤ n) (h1 : n ≤ 9223372036854775807) :
  Calls Tryz.prog 52 #[.int .i64 n] w fun e w' => (∃ A c,e = .returned (.slice A (blen (mag n) + 1) c) ∧ w'.ownsRow w.heap.size 5 1 (.slice A (blen (mag n) + 1) c) (blen (mag n) + 1) (u8s (encInt n))) ∧ Below w.heap.size w w' := by
 obtain ⟨i0,hi,hz0,hz1,hz2⟩ := info_parts winfo_u8
 go_enter Tryz.func52,Tryz.ntmps52
 go_wp2_with fail
 go_step3
 go_upto_if 11 with (fail)
 go_cut [3,4] (fun s3 s4 wx => s3 = .int .u64 (mag n : Int) ∧ s4 = .int .u8 (flipV n) ∧ w = wx)
 case first =>
  by_cases hn : n < 0
  ·have hx := not_u64 n h0 hn
   have hf : flipV n = 255 := by unfold flipV;rw [if_pos hn]
   have HF := hid hf;clear hf
   go_wp2_with fail
   go_meet
   case rel => exact ⟨rfl,by rw [HF.out],rfl⟩
  ·have hf : flipV n = 0 := by unfold flipV;rw [if_neg hn]
   have hm : (mag n : Int) = n := by unfold mag;rw [if_neg hn];omega
   have HF := hid hf;have HM := hid hm;clear hf hm
   go_wp2_with fail
   go_meet
   case rel => exact ⟨by rw [HM.out,IntWalk.u64_in n (by omega)],by rw [HF.out],rfl⟩
 case rest =>
  obtain ⟨rfl,rfl,rfl⟩ := hcut
  have hM := mag_lt n h0 h1
  have hM8 := mag_lt8 n h0 h1
  have HXF : Hid (∀ x,0 ≤ x → x ≤ 255 → bits .xor .u8 x (flipV n) = flipB n x) := hid (fun x a b => xor_flip n x a b)
  have HE : Hid (encInt n = headB n :: tailTo n (blen (mag n)) (blen (mag n))) := hid rfl
  have HH : Hid (headB n = flipB n (128 + (blen (mag n) : Int))) := hid rfl
  have HT : Hid (∀ k j,tailTo n k (j + 1) = tailTo n k j ++ [flipB n (digit (mag n) (k - 1 - j))]) := hid (tailTo_succ n)
  have HT0 : Hid (∀ k,tailTo n k 0 = []) := hid (fun _ => rfl)
  generalize hmg : mag n = M at *
  have HMG := hid hmg;clear hmg
  generalize flipV n = F at *
  go_wp2_with fail
  go_step3
  go_upto_block 0 with (fail)
  go_cut [5] (fun s5 wx => s5 = .int .i64 ((blen M : Nat) : Int) ∧ w = wx)
  case first =>
   go_wp2_with fail
   go_loop [5] (fun i => ∃ k : Nat,k ≤ 8 ∧ M < 256 ^ k ∧ i = .int .i64 k) (fun i => (intOf i).toNat)
   case atStart => exact ⟨8,by omega,hM8,rfl⟩
   case round =>
    obtain ⟨k,hk,hMk,rfl⟩ := hrel
    have HU : Hid (k = 0 ∨ 256 ^ (k - 1) ≤ M → k = blen M) := hid (fun h => blen_unique M k (Nat.lt_trans hM8 (by decide)) hMk h)
    clear hMk hM8
    rcases Nat.eq_zero_or_pos k with hk0 | hk0
    ·subst hk0
     have HU2 := hid (HU.out (Or.inl rfl))
     go_wp2_with fail
     go_meet
     case rel => exact ⟨by rw [← HU2.out];rfl,rfl⟩
    ·obtain ⟨j,rfl⟩ : ∃ j,k = j + 1 := ⟨k - 1,by omega⟩
     have hsh := shr_cast M j
     by_cases hq : M < 256 ^ j
     ·have hz : M / 256 ^ j = 0 := Nat.div_eq_of_lt hq
      rw [hz] at hsh
      have HQ := hid hq
      clear hz hq
      go_wp2_with fail
      go_round
      case rel => exact ⟨j,by omega,HQ.out,by go_num⟩
      case measure => simp [intOf]
     ·have hz : 0 < M / 256 ^ j := Nat.div_pos (by omega) (Nat.pow_pos (by decide))
      have HU2 := hid (HU.out (Or.inr (by simpa using hq)))
      generalize M / 256 ^ j = q at *
      clear hq
      have hz2 : (0 : Int) < (q : Int) := by omega
      go_wp2_with fail
      go_meet
      case rel => exact ⟨by rw [← HU2.out];rfl,rfl⟩
  case rest =>
   obtain ⟨rfl,rfl⟩ := hcut
   have hk8 := blen_le M hM8
   have HX0 := hid (HXF.out (128 + (blen M : Int)) (by omega) (by omega))
   have HD : Hid (∀ i,((M : Int) / 2 ^ (8 * i)) % 256 = digit M i) := hid (shr_digit M)
   have HDB : Hid (∀ i,0 ≤ digit M i ∧ digit M i ≤ 255) := hid (digit_bd M)
   generalize hkm : blen M = k at *
   have HKM := hid hkm;clear hkm
   clear hM8
   have hx0 := HX0.out
   go_wp2_with fail
   clear hx0
   go_loopw [7,6] (fun v7 v6 wr => ∃ (j r : Nat) (A : Option Addr) (c : Nat),j + r = k ∧ v7 = .int .i64 ((r : Int) - 1) ∧ v6 = .slice A (j + 1) c ∧ wr.ownsRow w.heap.size 5 1 (.slice A (j + 1) c) (j + 1) (u8s (headB n :: tailTo n k j)) ∧ Below w.heap.size w wr)
    (fun v7 _ _ => (intOf v7 + 1).toNat)
   case atStart => exact ⟨0,k,_,_,by omega,rfl,rfl,by rw [HT0.out,HH.out];exact own_lit w _ _ _ (u8s [flipB n (128 + (k : Int))]) _ 1 rfl rfl (Nat.le_refl _) rfl (by decide),(Below.refl _ _).alloc (Nat.le_refl _) _⟩
   case round =>
    obtain ⟨j,r,A,c,hjr,rfl,rfl,hown,hB⟩ := hrel
    have hs := hB.size
    rcases Nat.eq_zero_or_pos r with hr0 | hr0
    ·subst hr0
     have hjk : j = k := by omega
     subst hjk
     go_wp2_with fail
     rw [Exit.noGoto_ret]
     go_ret
     rw [← HE.out] at hown
     exact ⟨⟨A,c,by rw [HMG.out,HKM.out];rfl,by rw [HMG.out,HKM.out];exact hown⟩,hB⟩
    ·obtain ⟨r',rfl⟩ : ∃ j,r = j + 1 := ⟨r - 1,by omega⟩
     have hd := HD.out r'
     have hdb := HDB.out r'
     have hxj := HXF.out (digit M r') hdb.1 hdb.2
     have HTJ : Hid (tailTo n k (j + 1) = tailTo n k j ++ [flipB n (digit M r')]) := hid (by rw [HT.out,show k - 1 - j = r' from by omega])
     have HJR := hid hjr
     have hj9 : j < 8 := by omega
     have hr9 : r' < 8 := by omega
     clear hdb hjr
     go_wp2_with (at_builtin;refine wpList_app rfl (.tmp 36) (.tmp 44) 49 rfl w.heap.size 5 i0 (.int .u8 0) 1 1 Tryz.underlying49 hi hz0 hz1 hz2 rfl (by omega) A (j + 1) c _ rfl (hown.alloc _) (wr.heap.size + 1) _ 1 1 [.int .u8 (flipB n (digit M r'))] rfl (RdN.fresh [_] _ _ 1 1 rfl rfl rfl) (wone_u8 _) (by simp only [maxLen];omega) (by omega) (by simp;omega) ?_;intro A4 c4 w4 hown4 hg4;have hb4 := below_app (hB.alloc (by omega) _) hg4 (hown.alloc _) (Nat.le_refl _) (by simp;omega))
     go_roundw
     case rel => exact ⟨j + 1,r',A4,c4,by have := HJR.out;omega,by go_num,rfl,by rw [HTJ.out,← List.cons_append,u8s_append];exact hown4,hb4⟩
     case measure => simp [intOf]
end Go.Proofs.YtojcmcccahjphaaGreatDoor
/- The walk of the reference's Int: it hands back encInt. No condition. -/
namespace Go.Proofs.YtojcmcccahjphaaGreatDoor
open Go.RowKit
open Lib (hid)
def lowD (m j : Nat) : List Int := (List.range j).map (digit m)
theorem lowD_succ (m j : Nat) : lowD m (j + 1) = lowD m j ++ [digit m j] := by simp [lowD,List.range_succ]
theorem lowD_get (m k i : Nat) (h : i < k) : (u8s (lowD m k))[i]? = some (.int .u8 (digit m i)) := by
 simp [u8s,lowD,h]
theorem rint_any (n : Int) (w : World) (h0 : -9223372036854775808 ≤ n) (h1 : n ≤ 9223372036854775807) :
  Calls Tryz.prog 61 #[.int .i64 n] w fun e w' => (∃ A c,e = .returned (.slice A (blen (mag n) + 1) c) ∧ w'.ownsRow w.heap.size 5 1 (.slice A (blen (mag n) + 1) c) (blen (mag n) + 1) (u8s (encInt n))) ∧ Below w.heap.size w w' := by
 obtain ⟨i0,hi,hz0,hz1,hz2⟩ := info_parts winfo_u8
 have HE : Hid (encInt n = headB n :: tailTo n (blen (mag n)) (blen (mag n))) := hid rfl
 have HT : Hid (∀ k j,tailTo n k (j + 1) = tailTo n k j ++ [flipB n (digit (mag n) (k - 1 - j))]) := hid (tailTo_succ n)
 have HT0 : Hid (∀ k,tailTo n k 0 = []) := hid (fun _ => rfl)
 have hM := mag_lt n h0 h1
 have hM8 := mag_lt8 n h0 h1
 have HD : Hid (∀ i,((((mag n) / 256 ^ i : Nat) : Int)) % 256 = digit (mag n) i) := hid (fun i => by unfold digit;omega)
 have HDB : Hid (∀ i,0 ≤ digit (mag n) i ∧ digit (mag n) i ≤ 255) := hid (digit_bd (mag n))
 have HMM : Hid ((mag n : Int) = if n < 0 then -1 - n else n) := hid (by unfold mag;split <;> omega)
 generalize hmg : mag n = M at *
 have HMG := hid hmg;clear hmg
 go_enter Tryz.func61,Tryz.ntmps61
 go_upto_if 11 with (fail)
 go_cut [3] (fun s3 wx => s3 = .int .i64 (M : Int) ∧ w = wx)
 case first =>
  by_cases hn : n < 0
  ·have HM := HMM.out;rw [if_pos hn] at HM
   have HM2 := hid HM;clear HM
   go_wp2_with fail
   go_meet
   case rel => exact ⟨by rw [HM2.out],rfl⟩
  ·have HM := HMM.out;rw [if_neg hn] at HM
   have HM2 := hid HM;clear HM
   go_wp2_with fail
   go_meet
   case rel => exact ⟨by rw [HM2.out],rfl⟩
 case rest =>
  obtain ⟨rfl,rfl⟩ := hcut
  go_wp2_with fail
  go_loopw [3,4] (fun v3 v4 wr => ∃ (j : Nat) (A : Option Addr) (c : Nat),j ≤ 8 ∧ v3 = .int .i64 ((M / 256 ^ j : Nat) : Int) ∧ (j = 0 ∨ 256 ^ (j - 1) ≤ M) ∧ v4 = .slice A j c ∧ wr.ownsRow w.heap.size 5 1 (.slice A j c) j (u8s (lowD M j)) ∧ Below w.heap.size w wr)
   (fun v3 _ _ => (intOf v3).toNat)
  case atStart => exact ⟨0,none,0,by omega,by simp,Or.inl rfl,rfl,World.ownsRow_nil _ _ _ _,Below.refl _ _⟩
  case round =>
   obtain ⟨j,A,c,hj8,rfl,hlow,rfl,hown,hB⟩ := hrel
   have hs := hB.size
   by_cases hq : M / 256 ^ j = 0
   ·have hbl : j = blen M := blen_unique M j (Nat.lt_trans hM8 (by decide)) (by
     rcases Nat.lt_or_ge M (256 ^ j) with h | h
     ·exact h
     ·have := Nat.div_pos h (Nat.pow_pos (by decide))
      omega) hlow
    rw [hq,show ((0 : Nat) : Int) = 0 from rfl]
    have HBL := hid hbl
    clear hq hlow hbl hM8
    obtain ⟨wd,rfl⟩ : ∃ x : World,x = wr := ⟨_,rfl⟩
    go_upto_if 27 with (fail)
    go_cut [6] (fun s6 wx => ∃ (B : Option Addr) (d : Nat),s6 = .slice B 1 d ∧ wx.ownsRow wd.heap.size 5 1 (.slice B 1 d) 1 (u8s [headB n]) ∧ Below wd.heap.size wd wx)
    case first =>
     have HHB : Hid (headB n = flipB n (128 + (blen M : Int))) := hid (by unfold headB;rw [HMG.out])
     by_cases hn : n < 0
     ·have HF : Hid (headB n = 255 - (128 + (j : Int))) := hid (by rw [HHB.out,HBL.out];unfold flipB;rw [if_pos hn])
      go_wp2_with (at_builtin;refine wpList_app rfl (.tmp 34) (.tmp 38) 49 rfl wd.heap.size 5 i0 (.int .u8 0) 1 1 Tryz.underlying49 hi hz0 hz1 hz2 rfl (by omega) none 0 0 [] rfl (World.ownsRow_nil _ _ _ _) (wd.heap.size + 1) _ 1 1 [.int .u8 (127 - (j : Int))] rfl (RdN.fresh [_] _ _ 1 1 rfl rfl rfl) (wone_u8 _) (by decide) (by decide) (by simp) ?_;intro A4 c4 w4 hown4 hg4;have hb4 := below_app ((Below.refl wd.heap.size wd).alloc (Nat.le_refl _) _) hg4 (World.ownsRow_nil _ wd.heap.size 5 1) (Nat.le_refl _) (by simp))
      go_meet
      case rel => exact ⟨A4,c4,rfl,by rw [HF.out,show (255 - (128 + (j : Int))) = 127 - (j : Int) from by omega];exact hown4,hb4⟩
     ·have HF : Hid (headB n = 128 + (j : Int)) := hid (by rw [HHB.out,HBL.out];unfold flipB;rw [if_neg hn])
      go_wp2_with (at_builtin;refine wpList_app rfl (.tmp 28) (.tmp 32) 49 rfl wd.heap.size 5 i0 (.int .u8 0) 1 1 Tryz.underlying49 hi hz0 hz1 hz2 rfl (by omega) none 0 0 [] rfl (World.ownsRow_nil _ _ _ _) (wd.heap.size + 1) _ 1 1 [.int .u8 (128 + (j : Int))] rfl (RdN.fresh [_] _ _ 1 1 rfl rfl rfl) (wone_u8 _) (by decide) (by decide) (by simp) ?_;intro A4 c4 w4 hown4 hg4;have hb4 := below_app ((Below.refl wd.heap.size wd).alloc (Nat.le_refl _) _) hg4 (World.ownsRow_nil _ wd.heap.size 5 1) (Nat.le_refl _) (by simp))
      go_meet
      case rel => exact ⟨A4,c4,rfl,by rw [HF.out];exact hown4,hb4⟩
    case rest =>
     obtain ⟨B,d,rfl,hown2,hB2⟩ := hcut
     have HRD := hid (Rd.of_own hown)
     have HB := hid hB
     clear hown hB
     go_wp2_with fail
     go_loopw [7,6] (fun v7 v6 wr => ∃ (i r : Nat) (B : Option Addr) (d : Nat),i + r = j ∧ v7 = .int .i64 ((r : Int) - 1) ∧ v6 = .slice B (i + 1) d ∧ wr.ownsRow wd.heap.size 5 1 (.slice B (i + 1) d) (i + 1) (u8s (headB n :: tailTo n j i)) ∧ Below wd.heap.size wd wr)
      (fun v7 _ _ => (intOf v7 + 1).toNat)
     case atStart => exact ⟨0,j,_,_,by omega,rfl,rfl,by rw [HT0.out];exact hown2,hB2⟩
     case round =>
      clear hown2 hB2
      obtain ⟨i,r,B,d,hir,rfl,rfl,hown,hB⟩ := hrel
      have hs2 := hB.size
      rcases Nat.eq_zero_or_pos r with hr0 | hr0
      ·subst hr0
       have hij : i = j := by omega
       subst hij
       go_wp2_with fail
       go_ret
       rw [HBL.out,← HE.out] at hown
       exact ⟨⟨B,d,by rw [HBL.out];rfl,hown.mono hs⟩,HB.out.trans (hB.mono hs)⟩
      ·obtain ⟨r',rfl⟩ : ∃ x,r = x + 1 := ⟨r - 1,by omega⟩
       obtain ⟨b,o,rfl,hb,hc⟩ := HRD.out.2 (by omega)
       have c0 := (hB.cell (p := ⟨b,o + r',none⟩) hb).trans (hc r' _ (lowD_get M j r' (by omega)))
       have HTJ : Hid (tailTo n j (i + 1) = tailTo n j i ++ [flipB n (digit M r')]) := hid (by rw [HT.out,show j - 1 - i = r' from by omega])
       have hdb := HDB.out r'
       have hrj : r' < j := by omega
       have HIR := hid hir
       have hi9 : i < 8 := by omega
       have hr9 : r' < 8 := by omega
       clear hir hc
       by_cases hn : n < 0
       ·have HF : Hid (flipB n (digit M r') = 255 - digit M r') := hid (by unfold flipB;rw [if_pos hn])
        generalize digit M r' = x at *
        go_wp2_with (at_builtin;refine wpList_app rfl (.tmp 54) (.tmp 56) 49 rfl wd.heap.size 5 i0 (.int .u8 0) 1 1 Tryz.underlying49 hi hz0 hz1 hz2 rfl (by omega) B (i + 1) d _ rfl (hown.alloc _) (wr.heap.size + 1) _ 1 1 [.int .u8 (255 - x)] rfl (RdN.fresh [_] _ _ 1 1 rfl rfl rfl) (wone_u8 _) (by simp only [maxLen];omega) (by omega) (by simp;omega) ?_;intro A4 c4 w4 hown4 hg4;have hb4 := below_app (hB.alloc (by omega) _) hg4 (hown.alloc _) (Nat.le_refl _) (by simp;omega))
        go_roundw
        case rel => exact ⟨i + 1,r',A4,c4,by have := HIR.out;omega,by go_num,rfl,by rw [HTJ.out,HF.out,← List.cons_append,u8s_append];exact hown4,hb4⟩
        case measure => simp [intOf]
       ·have HF : Hid (flipB n (digit M r') = digit M r') := hid (by unfold flipB;rw [if_neg hn])
        generalize digit M r' = x at *
        go_wp2_with (at_builtin;refine wpList_app rfl (.tmp 54) (.tmp 56) 49 rfl wd.heap.size 5 i0 (.int .u8 0) 1 1 Tryz.underlying49 hi hz0 hz1 hz2 rfl (by omega) B (i + 1) d _ rfl (hown.alloc _) (wr.heap.size + 1) _ 1 1 [.int .u8 (x)] rfl (RdN.fresh [_] _ _ 1 1 rfl rfl rfl) (wone_u8 _) (by simp only [maxLen];omega) (by omega) (by simp;omega) ?_;intro A4 c4 w4 hown4 hg4;have hb4 := below_app (hB.alloc (by omega) _) hg4 (hown.alloc _) (Nat.le_refl _) (by simp;omega))
        go_roundw
        case rel => exact ⟨i + 1,r',A4,c4,by have := HIR.out;omega,by go_num,rfl,by rw [HTJ.out,HF.out,← List.cons_append,u8s_append];exact hown4,hb4⟩
        case measure => simp [intOf]
   ·have hpos : 0 < M / 256 ^ j := Nat.pos_of_ne_zero hq
    have hge : 256 ^ j ≤ M := by
     rcases Nat.lt_or_ge M (256 ^ j) with h | h
     ·exact absurd (Nat.div_eq_of_lt h) hq
     ·exact h
    have hj7 : j < 8 := by
     rcases Nat.lt_or_ge j 8 with h | h
     ·exact h
     ·have : 256 ^ 8 ≤ 256 ^ j := Nat.pow_le_pow_right (by decide) h
      omega
    have hsz : M / 256 ^ j ≤ 9223372036854775807 := Nat.le_trans (Nat.div_le_self _ _) (by omega)
    have HDJ := hid (HD.out j)
    have HQ2 : Hid (M / 256 ^ (j + 1) = M / 256 ^ j / 256) := hid (by rw [Nat.pow_succ,Nat.div_div_eq_div_mul])
    have HGE := hid hge
    clear hq hge hM8 hlow
    generalize M / 256 ^ j = q at *
    go_wp2_with (at_builtin;refine wpList_app rfl (.tmp 16) (.tmp 20) 49 rfl w.heap.size 5 i0 (.int .u8 0) 1 1 Tryz.underlying49 hi hz0 hz1 hz2 rfl (by omega) A j c _ rfl (hown.alloc _) (wr.heap.size + 1) _ 1 1 [.int .u8 ((q : Int) % 256)] rfl (RdN.fresh [_] _ _ 1 1 rfl rfl rfl) (wone_u8 _) (by simp only [maxLen];omega) (by omega) (by simp;omega) ?_;intro A4 c4 w4 hown4 hg4;have hb4 := below_app (hB.alloc (by omega) _) hg4 (hown.alloc _) (Nat.le_refl _) (by simp;omega))
    go_roundw
    case rel => exact ⟨j + 1,A4,c4,by omega,by rw [HQ2.out];go_num,Or.inr HGE.out,rfl,by rw [lowD_succ,u8s_append,← HDJ.out];exact hown4,hb4⟩
    case measure => simp [intOf];omega
end Go.Proofs.YtojcmcccahjphaaGreatDoor
/- Strings as bytes: append(b,s...),[]byte(s);the walks of wire.Bytes and the reference's Bytes. No condition. -/
namespace Go.Proofs.YtojcmcccahjphaaGreatDoor
open Go.RowKit
open Lib (hid)
theorem strCells_eq (s : ByteArray) : Lib.strCells s = u8s (bys s) := by simp [Lib.strCells,u8s,bys]
section
variable {P : Program} {w : World}
theorem wpList_app_str {ops : Array Oper} {rest : List Oper} {o : Oper} {a : Act} {Q : Exit → Act → World → Prop} (hgd : o.guard = none) (sl x : Operand) (t u : TypeId)
  (ho : o.op = .call { callee := .builtin .append,args := #[sl,x],argTypes := #[t,u] })
  (base : Nat) (e : TypeId) (i : TypeInfo) (ht : P.underlying t = some (.slice e)) (hu : P.underlying u = some .string) (hi : P.info? e = some i) (hz : i.zero = some (.int .u8 0))
  (hsize : i.size = 1) (hby : i.bytes = 1)
  (A : Option Addr) (n c : Nat) (xs : List Value) (hs : a.eval sl = .slice A n c) (hown : w.ownsRow base e 1 (.slice A n c) n xs) (s : ByteArray) (hx : a.eval x = .string s)
  (h63 : n + s.size ≤ maxLen) (hbytes : n + s.size ≤ 140737488355328) (hbase : base ≤ w.heap.size)
  (h : ∀ A' c' w',w'.ownsRow base e 1 (.slice A' (n + s.size) c') (n + s.size) (xs ++ u8s (bys s)) → w.grownBy w' (Value.slice A n c).ownBlock → wpList P ops Q rest (a.put o.dst (.slice A' (n + s.size) c')) w') : wpList P ops Q (o :: rest) a w := by
 refine Lib.wpList_append_own_string (P := P) w hgd sl x t u ho base e i ht hu hi hz hsize hby _ n xs hs hown s hx h63 hbytes hbase fun v' w' h2 h3 _ => ?_
 rw [strCells_eq] at h2
 obtain ⟨A',c',rfl⟩ : ∃ A' c',v' = Value.slice A' (n + s.size) c' := by
  rcases h2.2 with ⟨rfl,h0⟩ | ⟨g,cap,cur,rfl,_⟩
  ·exact ⟨none,0,by rw [h0]⟩
  ·exact ⟨_,_,rfl⟩
 exact h A' c' w' h2 h3
theorem run_toBytes (W : World) (src dst e : TypeId) (s : ByteArray) (hs : P.underlying src = some .string) (hd : P.underlying dst = some (.slice e)) (he : P.underlying e = some (.int .u8)) :
  ∃ c w',(convert src dst (.string s)).run P W = .ok (.slice (some ⟨W.heap.size,0,none⟩) s.size c) w' ∧ Rd w' w'.heap.size (some ⟨W.heap.size,0,none⟩) s.size (u8s (bys s)) ∧ Below W.heap.size W w' := by
 refine ⟨_,_,run_bytes_of_string W src dst e s hs hd he,⟨by rw [u8s_length,bys_length],fun h0 => ⟨W.heap.size,0,rfl,by simp,fun j v hv => ?_⟩⟩,?_⟩
 ·rw [Nat.zero_add]
  have hh : (W.drew.alloc (.cells (bytesRow s (grownCap W s.size 0 e)) e ((bytesRow s (grownCap W s.size 0 e)).size,(bytesRow s (grownCap W s.size 0 e)).size + 1))).heap[W.heap.size]? = some (.cells (bytesRow s (grownCap W s.size 0 e)) e ((bytesRow s (grownCap W s.size 0 e)).size,(bytesRow s (grownCap W s.size 0 e)).size + 1)) := heap_alloc_new W.drew _
  rw [cell_of_row _ _ _ _ _ _ hh]
  have hj : j < (u8s (bys s)).length := (List.getElem?_eq_some_iff.1 hv).1
  have hj2 : j < s.data.size := by rw [u8s_length,bys_length] at hj;exact hj
  rw [← hv]
  unfold bytesRow
  rw [Array.getElem?_append_left (by simpa using hj2)]
  simp [u8s,bys]
  cases s.data[j]? <;> rfl
 ·exact ((Below.refl _ _).drew).alloc (Nat.le_refl _) _
end
theorem own_below {w w' : World} {base : Nat} {e : TypeId} {size : Nat} {v : Value} {n : Nat} {xs : List Value} (h : w.ownsRow base e size v n xs) (hb : Below w.heap.size w w') : w'.ownsRow base e size v n xs :=
 h.kept (row := none) ⟨hb.os,hb.tape,hb.output,hb.size,fun i hi _ => hb.block i hi⟩ (Classical.em _)
def encB (s : ByteArray) : List Int := encInt s.size ++ bys s
theorem encB_length (s : ByteArray) : (encB s).length = blen (mag s.size) + 1 + s.size := by simp [encB,encInt_length,bys_length]
theorem encB_byt (s : ByteArray) (h : s.size ≤ 1000000000000) : Byt (encB s) := (encInt_byt _ (by omega) (by omega)).app (bys_byt s)
theorem wbytes_any (s : ByteArray) (w : World) (hs : s.size ≤ 1000000000000) :
  Calls Tryz.prog 55 #[.string s] w fun e w' => (∃ A c,e = .returned (.slice A (encB s).length c) ∧ w'.ownsRow w.heap.size 5 1 (.slice A (encB s).length c) (encB s).length (u8s (encB s))) ∧ Below w.heap.size w w' := by
 obtain ⟨i0,hi,hz0,hz1,hz2⟩ := info_parts winfo_u8
 rw [encB_length]
 have hk := blen_le (mag s.size) (mag_lt8 s.size (by omega) (by omega))
 obtain ⟨k,hkk⟩ : ∃ k,blen (mag s.size) = k := ⟨_,rfl⟩
 have HC := fun W => wint_any s.size W (by omega) (by omega)
 rw [hkk] at HC hk ⊢
 have HCC := hid HC;clear HC hkk
 go_enter Tryz.func55,Tryz.ntmps55
 go_wp2_with (first
  | (go_at_call 52;refine (HCC.out _).mono ?_;rintro e w1 ⟨⟨A,c,rfl,hown⟩,hB⟩;have hsz := hB.size)
  | (at_builtin;refine wpList_app_str rfl (.tmp 5) (.tmp 6) 49 9 rfl w.heap.size 5 i0 Tryz.underlying49 Tryz.underlying9 hi hz0 hz1 hz2 A (k + 1) c _ rfl hown s rfl (by simp only [maxLen];omega) (by omega) hsz ?_;intro A4 c4 w4 hown4 hg4;have hb4 := below_app hB hg4 hown (Nat.le_refl _) hsz))
 all_goals go_ret
 all_goals exact ⟨⟨A4,c4,rfl,by unfold encB;rw [u8s_append];exact hown4⟩,hb4⟩
theorem rbytes_any (s : ByteArray) (w : World) (hs : s.size ≤ 1000000000000) :
  Calls Tryz.prog 63 #[.string s] w fun e w' => (∃ A c,e = .returned (.slice A (encB s).length c) ∧ w'.ownsRow w.heap.size 5 1 (.slice A (encB s).length c) (encB s).length (u8s (encB s))) ∧ Below w.heap.size w w' := by
 obtain ⟨i0,hi,hz0,hz1,hz2⟩ := info_parts winfo_u8
 rw [encB_length]
 have hk := blen_le (mag s.size) (mag_lt8 s.size (by omega) (by omega))
 obtain ⟨k,hkk⟩ : ∃ k,blen (mag s.size) = k := ⟨_,rfl⟩
 have HC := fun W => rint_any s.size W (by omega) (by omega)
 rw [hkk] at HC hk ⊢
 have HCC := hid HC;clear HC hkk
 go_enter Tryz.func63,Tryz.ntmps63
 go_wp2_with (first
  | (go_at_call 61;refine (HCC.out _).mono ?_;rintro e w1 ⟨⟨A,c,rfl,hown⟩,hB⟩;have hsz := hB.size;obtain ⟨cb,wb,hcb,hRb,hBb⟩ := run_toBytes (P := Tryz.prog) w1 9 49 5 s Tryz.underlying9 Tryz.underlying49 Tryz.underlying5;have hs2 := hBb.size)
  | (at_builtin;refine wpList_app rfl (.tmp 5) (.tmp 7) 49 rfl w.heap.size 5 i0 (.int .u8 0) 1 1 Tryz.underlying49 hi hz0 hz1 hz2 rfl (by omega) A (k + 1) c _ rfl (own_below hown hBb) wb.heap.size _ s.size cb (u8s (bys s)) rfl (RdN.of_Rd hRb) (u8s_one _) (by simp only [maxLen];omega) (by omega) (by omega) ?_;intro A4 c4 w4 hown4 hg4;have hb4 := below_app (hB.trans (hBb.mono hsz)) hg4 (own_below hown hBb) (Nat.le_refl _) (by omega)))
 all_goals go_ret
 all_goals exact ⟨⟨A4,c4,rfl,by unfold encB;rw [u8s_append];exact hown4⟩,hb4⟩
end Go.Proofs.YtojcmcccahjphaaGreatDoor
/- The walk of wire.GetInt. No condition. -/
namespace Go.Proofs.YtojcmcccahjphaaGreatDoor
open Go.RowKit
open Lib (hid)
def tup3 (x : Int × Int × Int) : Value := .tuple #[.int .i64 x.1,.int .i64 x.2.1,.int .i64 x.2.2]
theorem rd_u8 {w : World} {B : Nat} {A : Option Addr} {n : Nat} {l : List Int} (h : Rd w B A n (u8s l)) (hn : 0 < n) : ∃ b o,A = some ⟨b,o,none⟩ ∧ b < B ∧ ∀ j,j < n → w.cell? ⟨b,o + j,none⟩ = some (.int .u8 (l.getD j 0)) := by
 obtain ⟨b,o,hA,hb,hc⟩ := h.2 hn
 have hl : l.length = n := by simpa [u8s] using h.1
 exact ⟨b,o,hA,hb,fun j hj => hc j _ (u8s_get l j (by omega))⟩
theorem gint_any (l : List Int) (A : Option Addr) (n c : Nat) (w : World) (hl : Rd w w.heap.size A n (u8s l)) (hby : Byt l) (_hnc : n ≤ c) (_hc : c ≤ 9223372036854775807) :
  Calls Tryz.prog 69 #[.slice A n c] w fun e w' => e = .returned (tup3 (getI l)) ∧ w = w' := by
 have hlen : l.length = n := by simpa [u8s] using hl.1
 rcases Nat.eq_zero_or_pos n with h0 | h0
 ·have HG : Hid (getI l = (0,0,3)) := hid (by unfold getI;rw [if_pos (by omega)])
  subst h0
  clear hlen hl
  go_enter Tryz.func69,Tryz.ntmps69
  go_wp2_with fail
  go_ret3
  exact ⟨by rw [HG.out];rfl,rfl⟩
 ·obtain ⟨b,o,rfl,hb,hcell⟩ := rd_u8 hl h0
  obtain ⟨hh,hk127⟩ := head_flB l hby
  have hb0 := hby.at_ 0
  have c0 := hcell 0 h0
  rw [Nat.add_zero] at c0
  have HXF : Hid (∀ x,0 ≤ x → x ≤ 255 → bits .xor .u8 x (if ngB l then 255 else 0) = flB (ngB l) x) := hid (fun x a b => xor_flB l x a b)
  have HH := hid hh
  have HL := hid hlen
  have HCELL := hid hcell
  have hx0 := HXF.out _ hb0.1 hb0.2
  rw [HH.out] at hx0
  have HX0 := hid hx0
  have HN : Hid (ngB l = decide (l.getD 0 0 < 128)) := hid rfl
  clear hl hlen hcell hh hx0
  obtain ⟨x0,hx0⟩ : ∃ x,x = l.getD 0 0 := ⟨_,rfl⟩
  rw [← hx0] at c0 hb0 HX0 HN
  obtain ⟨F,hF⟩ : ∃ F : Int,F = if ngB l then 255 else 0 := ⟨_,rfl⟩
  rw [← hF] at HX0 HXF
  have HF : Hid (F = if x0 < 128 then 255 else 0) := hid (by rw [hF,HN.out];by_cases h : x0 < 128 <;> simp [h])
  have HFF := hid hF
  have HXX := hid hx0
  clear hx0 hF
  obtain ⟨K,hK⟩ : ∃ K,K = cntB l := ⟨_,rfl⟩
  rw [← hK] at HX0 hk127 HH
  have HK := hid hK
  clear hK
  go_enter Tryz.func69,Tryz.ntmps69
  go_upto_if 16 with (fail)
  go_cut [5] (fun s5 wx => s5 = .int .u8 F ∧ w = wx)
  case first =>
   by_cases hx : x0 < 128
   ·have hf : F = 255 := by rw [HF.out,if_pos hx]
    have HF2 := hid hf;clear hf
    go_wp2_with fail
    go_meet
    case rel => exact ⟨by rw [HF2.out],rfl⟩
   ·have hf : F = 0 := by rw [HF.out,if_neg hx]
    have HF2 := hid hf;clear hf
    go_wp2_with fail
    go_meet
    case rel => exact ⟨by rw [HF2.out],rfl⟩
  case rest =>
   obtain ⟨rfl,rfl⟩ := hcut
   have hxk := HX0.out
   have hkk : (128 : Int) + (K : Int) - 128 = (K : Int) := by omega
   by_cases h8 : 8 < K
   ·have HG : Hid (getI l = (0,0,2)) := hid (by have := HL.out;have := HK.out;unfold getI;rw [if_neg (by omega),if_pos (by omega)])
    go_wp2_with fail
    go_ret3
    exact ⟨by rw [HG.out];rfl,rfl⟩
   ·by_cases hnk : n ≤ K
    ·have HG : Hid (getI l = (0,0,3)) := hid (by have := HL.out;have := HK.out;unfold getI;rw [if_neg (by omega),if_neg (by omega),if_pos (by omega)])
     go_wp2_with fail
     go_ret3
     exact ⟨by rw [HG.out];rfl,rfl⟩
    ·by_cases hl2 : 0 < K ∧ flB (ngB l) (l.getD 1 0) = 0
     ·have HG : Hid (getI l = (0,0,2)) := hid (by have := HL.out;have := HK.out;unfold getI;rw [if_neg (by omega),if_neg (by omega),if_neg (by omega),if_pos ⟨by omega,hl2.2⟩])
      have c1 := HCELL.out 1 (by omega)
      have hb1 := hby.at_ 1
      have hx1 := HXF.out _ hb1.1 hb1.2
      rw [hl2.2] at hx1
      obtain ⟨hk0,_⟩ := hl2
      generalize l.getD 1 0 = x1 at *
      go_wp2_with fail
      go_ret3
      exact ⟨by rw [HG.out];rfl,rfl⟩
     ·have HPOS : Hid (0 < K → (flB (ngB l) (l.getD 1 0) == 0) = false) := hid (fun hk => by
       have : ¬ flB (ngB l) (l.getD 1 0) = 0 := fun h => hl2 ⟨hk,h⟩
       simpa using this)
      clear hl2
      go_upto_block 0 with (fail)
      go_cut [] (fun wx => w = wx)
      case first =>
       rcases Nat.eq_zero_or_pos K with hk0 | hk0
       ·subst hk0
        go_wp2_with fail
        go_meet
        case rel => rfl
       ·have c1 := HCELL.out 1 (by omega)
        have hb1 := hby.at_ 1
        have hx1 := HXF.out _ hb1.1 hb1.2
        have hp := HPOS.out hk0
        generalize l.getD 1 0 = x1 at *
        go_wp2_with fail
        go_meet
        case rel => rfl
      case rest =>
       obtain rfl := hcut
       clear hkk hxk c0
       go_upto_region 14 with (fail)
       go_cut [43,44,45,46,47,48] (fun s43 s44 s45 s46 s47 s48 wx => ∃ o2 c2 : Nat,s46 = .slice (some ⟨b,o2,none⟩) K c2 ∧ (0 < K → o2 = o + 1) ∧ s47 = .int .i64 K ∧ s48 = .int .i64 0 ∧ w = wx)
       case first =>
        by_cases hc1 : 1 = c
        ·go_wp2_with fail
         go_meet
         case rel => exact ⟨_,_,rfl,fun h => by omega,rfl,rfl,rfl⟩
        ·go_wp2_with fail
         go_meet
         case rel => exact ⟨_,_,rfl,fun _ => rfl,rfl,rfl,rfl⟩
       case rest =>
        obtain ⟨o2,c2,rfl,ho2,rfl,rfl,rfl⟩ := hcut
        have HO2 := hid ho2
        clear ho2
        go_wp2_with fail
        go_loop [48,7] (fun v48 v7 => ∃ j : Nat,j ≤ K ∧ v48 = .int .i64 j ∧ v7 = .int .u64 (valB l j : Int)) (fun v48 _ => K - (intOf v48).toNat)
        case atStart => exact ⟨0,Nat.zero_le _,rfl,rfl⟩
        case round =>
         obtain ⟨j,hj,rfl,rfl⟩ := hrel
         by_cases hlt : j < K
         ·have h2 := HO2.out (by omega)
          subst h2
          have cj := HCELL.out (j + 1) (by omega)
          rw [show o + (j + 1) = o + 1 + j by omega] at cj
          have hbj := hby.at_ (j + 1)
          have hxj := HXF.out _ hbj.1 hbj.2
          have hfj := flB_bd (ngB l) _ hbj.1 hbj.2
          have hv : valB l j < 72057594037927936 := Nat.lt_of_lt_of_le (valB_lt l hby j) (Nat.le_trans (Nat.pow_le_pow_right (by decide) (show j ≤ 7 by omega)) (by decide))
          have HV : Hid (valB l (j + 1) = 256 * valB l j + (flB (ngB l) (l.getD (j + 1) 0)).toNat) := hid rfl
          obtain ⟨y,hy⟩ := Int.eq_ofNat_of_zero_le hfj.1
          rw [hy] at hxj hfj HV
          generalize l.getD (j + 1) 0 = x at *
          have HOJ := hid (or_join64 (valB l j) y hv (by omega))
          have HY := hid hy
          clear hy
          generalize valB l j = V at *
          go_wp2_with fail
          go_round
          case rel => exact ⟨j + 1,by omega,by go_num,by rw [HV.out,Int.mul_comm,HOJ.out];rfl⟩
          case measure => simp [intOf];omega
         ·obtain rfl : j = K := by omega
          have HGO : Hid (getI l = if 9223372036854775808 ≤ valB l j then (0,0,2) else (numB l,(j : Int) + 1,0)) := hid (by
           have h1 := HL.out
           have h2 := HK.out
           have h3 := HPOS.out
           unfold getI
           rw [← h2,if_neg (by omega),if_neg (by omega),if_neg (by omega),if_neg (fun h => by have h4 := h3 h.1;rw [h.2] at h4;cases h4)])
          have HNB : Hid (numB l = if ngB l then -1 - (valB l j : Int) else (valB l j : Int)) := hid (by unfold numB;rw [← HK.out])
          generalize valB l j = V at *
          go_wp2_with fail
          ·have hq : 0 < (V : Int) / 9223372036854775808 := by assumption
           go_ret3
           refine ⟨?_,rfl⟩
           rw [HGO.out,if_pos (by omega)];rfl
          ·have hq : (V : Int) / 9223372036854775808 ≤ 0 := by assumption
           have hf : 0 < F := by assumption
           have hng : ngB l = true := by
            have := HFF.out
            cases hn : ngB l
            ·rw [hn] at this;simp at this;omega
            ·rfl
           have hlt2 : V < 9223372036854775808 := by omega
           have HW := hid (not_u64_nat V hlt2)
           go_ret3
           refine ⟨?_,rfl⟩
           rw [HGO.out,if_neg (by omega),HNB.out,hng]
           show _ = Ending.returned (.tuple #[.int .i64 (-1 - (V : Int)),.int .i64 ((j : Int) + 1),.int .i64 0])
           rw [← HW.out];rfl
          ·have hq : (V : Int) / 9223372036854775808 ≤ 0 := by assumption
           have hf : F ≤ 0 := by assumption
           have hng : ngB l = false := by
            have := HFF.out
            cases hn : ngB l
            ·rfl
            ·rw [hn] at this;simp at this;omega
           go_ret3
           refine ⟨?_,rfl⟩
           rw [HGO.out,if_neg (by omega),HNB.out,hng];rfl
end Go.Proofs.YtojcmcccahjphaaGreatDoor
/- The walks of the reference's comparisons of lists: bytes,integers,texts. No condition. -/
namespace Go.Proofs.YtojcmcccahjphaaGreatDoor
open Go.RowKit
open Lib (hid)
theorem getD_ext {α : Type} {l m : List α} (d : α) (h : l.length = m.length) (hj : ∀ j,j < l.length → l.getD j d = m.getD j d) : l = m := by
 refine List.ext_getElem? fun i => ?_
 by_cases hi : i < l.length
 ·have := hj i hi
  rw [List.getD_eq_getElem?_getD,List.getD_eq_getElem?_getD,List.getElem?_eq_getElem hi,List.getElem?_eq_getElem (show i < m.length by omega)] at this
  rw [List.getElem?_eq_getElem hi,List.getElem?_eq_getElem (show i < m.length by omega)]
  exact congrArg some this
 ·rw [List.getElem?_eq_none (by omega),List.getElem?_eq_none (by omega)]
theorem toList_ne {x y : ByteArray} (h : ¬ x = y) : (x.toList == y.toList) = false := by
 rw [Bool.eq_false_iff]
 intro he
 have h2 := eq_of_beq he
 rw [ByteArray.toList_eq,ByteArray.toList_eq] at h2
 refine h ?_
 obtain ⟨⟨a⟩⟩ := x
 obtain ⟨⟨b⟩⟩ := y
 simp only at h2
 rw [h2]
theorem rd_vals {α : Type} {f : α → Value} {w : World} {B : Nat} {A : Option Addr} {n : Nat} {l : List α} (d : α) (h : Rd w B A n (l.map f)) (hn : 0 < n) : ∃ b o,A = some ⟨b,o,none⟩ ∧ b < B ∧ ∀ j,j < n → w.cell? ⟨b,o + j,none⟩ = some (f (l.getD j d)) := by
 obtain ⟨b,o,hA,hb,hc⟩ := h.2 hn
 have hl : l.length = n := by simpa using h.1
 refine ⟨b,o,hA,hb,fun j hj => hc j _ ?_⟩
 rw [List.getElem?_map,List.getD_eq_getElem?_getD,List.getElem?_eq_getElem (show j < l.length by omega)]
 rfl
theorem same_any (l m : List Int) (A B : Option Addr) (n c k d : Nat) (w : World) (hl : Rd w w.heap.size A n (l.map (Value.int .u8))) (hm : Rd w w.heap.size B k (m.map (Value.int .u8))) (hn : n ≤ 9223372036854775807) :
  Calls Tryz.prog 21 #[.slice A n c,.slice B k d] w fun e w' => e = .returned (.bool (decide (l = m))) ∧ Drew w w' := by
 have h1 : l.length = n := by simpa using hl.1
 have h2 : m.length = k := by simpa using hm.1
 by_cases hnk : n = k
 ·subst hnk
  have HL := hid hl;have HM := hid hm;have H1 := hid h1;have H2 := hid h2
  clear hl hm h1 h2
  go_enter Tryz.func21,Tryz.ntmps21
  go_wp2_with fail
  go_loopw [5] (fun i wr => ∃ t : Nat,t ≤ n ∧ i = .int .i64 t ∧ Hid (∀ j,j < t → l.getD j 0 = m.getD j 0) ∧ Drew w wr) (fun i _ => n - (intOf i).toNat)
  case atStart => exact ⟨0,Nat.zero_le _,rfl,hid (fun j hj => by omega),Drew.refl _⟩
  case round =>
   obtain ⟨t,ht,rfl,HJ,hD⟩ := hrel
   by_cases hlt : t < n
   ·obtain ⟨b,o,rfl,hb,hcl⟩ := rd_vals 0 HL.out (by omega)
    obtain ⟨b2,o2,rfl,hb2,hcm⟩ := rd_vals 0 HM.out (by omega)
    have c0 := (hD.cell _).trans (hcl t hlt)
    have c2 := (hD.cell _).trans (hcm t hlt)
    clear hcl hcm
    have HN : Hid (l.getD t 0 = m.getD t 0 → ∀ j,j < t + 1 → l.getD j 0 = m.getD j 0) := hid (fun h j hj => by
     rcases Nat.lt_or_ge j t with h3 | h3
     ·exact HJ.out j h3
     ·obtain rfl : j = t := by omega
      exact h)
    have HF : Hid (l.getD t 0 ≠ m.getD t 0 → decide (l = m) = false) := hid (fun h => decide_eq_false (fun he => h (by rw [he])))
    have hi : (0 : Int) ≤ (t : Int) := by omega
    have hi2 : (t : Int) < (n : Int) := by omega
    generalize l.getD t 0 = x at *
    generalize m.getD t 0 = y at *
    by_cases hxy : x = y
    ·have HN2 := hid (HN.out hxy)
     subst hxy
     go_upto_region 6 with (fail)
     go_quiet (fail)
     go_wp2_with fail
     go_roundw
     case rel => exact ⟨t + 1,by omega,by go_num,HN2,hD.trans (Drew.mk _ _)⟩
     case measure => simp [intOf];omega
    ·have HF2 := hid (HF.out hxy)
     have hbq : ((x : Int) == y) = false := by simpa using hxy
     go_upto_region 6 with (fail)
     go_quiet (fail)
     go_wp2_with fail
     go_ret
     exact ⟨by rw [HF2.out];rfl,hD.trans (Drew.mk _ _)⟩
   ·obtain rfl : t = n := by omega
    have HE : Hid (decide (l = m) = true) := hid (decide_eq_true (getD_ext 0 (H1.out.trans H2.out.symm) (fun j hj => HJ.out j (by rw [H1.out] at hj;exact hj))))
    go_wp2_with fail
    go_ret
    exact ⟨by rw [HE.out];rfl,hD⟩
 ·have HE : Hid (decide (l = m) = false) := hid (decide_eq_false (fun he => hnk (by rw [← h1,← h2,he])))
  have hbn : ((n : Int) == (k : Int)) = false := by simp;omega
  clear hl hm h1 h2
  go_enter Tryz.func21,Tryz.ntmps21
  go_wp2_with fail
  go_ret
  exact ⟨by rw [HE.out];rfl,Drew.refl _⟩
theorem sameTexts_any (l m : List ByteArray) (A B : Option Addr) (n c k d : Nat) (w : World) (hl : Rd w w.heap.size A n (l.map (Value.string))) (hm : Rd w w.heap.size B k (m.map (Value.string))) (hn : n ≤ 9223372036854775807) :
  Calls Tryz.prog 77 #[.slice A n c,.slice B k d] w fun e w' => e = .returned (.bool (decide (l = m))) ∧ Drew w w' := by
 have h1 : l.length = n := by simpa using hl.1
 have h2 : m.length = k := by simpa using hm.1
 by_cases hnk : n = k
 ·subst hnk
  have HL := hid hl;have HM := hid hm;have H1 := hid h1;have H2 := hid h2
  clear hl hm h1 h2
  go_enter Tryz.func77,Tryz.ntmps77
  go_wp2_with fail
  go_loopw [5] (fun i wr => ∃ t : Nat,t ≤ n ∧ i = .int .i64 t ∧ Hid (∀ j,j < t → l.getD j ByteArray.empty = m.getD j ByteArray.empty) ∧ Drew w wr) (fun i _ => n - (intOf i).toNat)
  case atStart => exact ⟨0,Nat.zero_le _,rfl,hid (fun j hj => by omega),Drew.refl _⟩
  case round =>
   obtain ⟨t,ht,rfl,HJ,hD⟩ := hrel
   by_cases hlt : t < n
   ·obtain ⟨b,o,rfl,hb,hcl⟩ := rd_vals ByteArray.empty HL.out (by omega)
    obtain ⟨b2,o2,rfl,hb2,hcm⟩ := rd_vals ByteArray.empty HM.out (by omega)
    have c0 := (hD.cell _).trans (hcl t hlt)
    have c2 := (hD.cell _).trans (hcm t hlt)
    clear hcl hcm
    have HN : Hid (l.getD t ByteArray.empty = m.getD t ByteArray.empty → ∀ j,j < t + 1 → l.getD j ByteArray.empty = m.getD j ByteArray.empty) := hid (fun h j hj => by
     rcases Nat.lt_or_ge j t with h3 | h3
     ·exact HJ.out j h3
     ·obtain rfl : j = t := by omega
      exact h)
    have HF : Hid (l.getD t ByteArray.empty ≠ m.getD t ByteArray.empty → decide (l = m) = false) := hid (fun h => decide_eq_false (fun he => h (by rw [he])))
    have hi : (0 : Int) ≤ (t : Int) := by omega
    have hi2 : (t : Int) < (n : Int) := by omega
    generalize l.getD t ByteArray.empty = x at *
    generalize m.getD t ByteArray.empty = y at *
    by_cases hxy : x = y
    ·have HN2 := hid (HN.out hxy)
     subst hxy
     go_upto_region 6 with (fail)
     go_quiet (fail)
     go_wp2_with fail
     go_roundw
     case rel => exact ⟨t + 1,by omega,by go_num,HN2,hD.trans (Drew.mk _ _)⟩
     case measure => simp [intOf];omega
    ·have HF2 := hid (HF.out hxy)
     have hbq : (x.toList == y.toList) = false := by exact toList_ne hxy
     go_upto_region 6 with (fail)
     go_quiet (fail)
     go_wp2_with fail
     go_ret
     exact ⟨by rw [HF2.out];rfl,hD.trans (Drew.mk _ _)⟩
   ·obtain rfl : t = n := by omega
    have HE : Hid (decide (l = m) = true) := hid (decide_eq_true (getD_ext ByteArray.empty (H1.out.trans H2.out.symm) (fun j hj => HJ.out j (by rw [H1.out] at hj;exact hj))))
    go_wp2_with fail
    go_ret
    exact ⟨by rw [HE.out];rfl,hD⟩
 ·have HE : Hid (decide (l = m) = false) := hid (decide_eq_false (fun he => hnk (by rw [← h1,← h2,he])))
  have hbn : ((n : Int) == (k : Int)) = false := by simp;omega
  clear hl hm h1 h2
  go_enter Tryz.func77,Tryz.ntmps77
  go_wp2_with fail
  go_ret
  exact ⟨by rw [HE.out];rfl,Drew.refl _⟩
end Go.Proofs.YtojcmcccahjphaaGreatDoor
/- The walk of the reference's GetInt: the answer of GetInt. No condition. -/
namespace Go.Proofs.YtojcmcccahjphaaGreatDoor
open Go.RowKit
open Lib (hid)
attribute [local go_sem ↓] wp_at_zero wp_at_succ
end Go.Proofs.YtojcmcccahjphaaGreatDoor
