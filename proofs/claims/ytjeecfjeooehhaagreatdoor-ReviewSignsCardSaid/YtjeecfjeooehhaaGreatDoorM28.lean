/- The walks of the reference's padKey and Mac. No condition. -/
import Derived.Test.YtjeecfjeooehhaaGreatDoorM27
import Derived.Test.YtjeecfjeooehhaaGreatDoorM1
set_option linter.unusedSimpArgs false
set_option linter.unusedVariables false
set_option maxHeartbeats 16000000
set_option maxRecDepth 100000
namespace Go.Proofs.YtjeecfjeooehhaaGreatDoor
open Go.RowKit
open Lib (hid)
def keyL (key : ByteArray) : List Int := if 64 < key.size then sha (bys key) else bys key
theorem keyL_byt (key : ByteArray) : Byt (keyL key) := by unfold keyL;split;exact sha_byt _;exact bys_byt _
theorem keyL_length (key : ByteArray) : (keyL key).length ≤ 64 := by
 unfold keyL;split
 ·rw [sha_length];omega
 ·rw [bys_length];omega
def macI (key text : ByteArray) : List Int := sha (padX (keyL key) 54 ++ bys text)
def macL (key text : ByteArray) : List Int := sha (padX (keyL key) 92 ++ macI key text)
theorem padKey_any (key : ByteArray) (x : Int) (w : World) (hs : key.size ≤ 1000000000000) (hK : RTab w) :
  Calls Tryz.prog 163 #[.string key,.int .u8 x] w fun e w' => (∃ A c,e = .returned (.slice A 64 c) ∧ w'.ownsRow w.heap.size 5 1 (.slice A 64 c) 64 (u8s (padX (keyL key) x))) ∧ Below w.heap.size w w' := by
 obtain ⟨i0,hi,hz0,hz1,hz2⟩ := info_parts winfo_u8
 have HK := hid hK
 have HKL := hid (keyL_length key)
 have HKB := hid (keyL_byt key)
 clear hK
 go_enter Tryz.func163,Tryz.ntmps163
 go_upto_if 12 with (fail)
 go_cut [5] (fun s5 wx => s5 = .string (strOf (keyL key)) ∧ Below w.heap.size w wx)
 case first =>
  by_cases h64 : 64 < key.size
  ·have HE : Hid (keyL key = sha (bys key)) := hid (by unfold keyL;rw [if_pos h64])
   obtain ⟨cb,wb,hcb,hRb,hBb⟩ := run_toBytes (P := Tryz.prog) w 9 23 5 key Tryz.underlying9 Tryz.underlying23 Tryz.underlying5
   have hzb := hBb.size
   go_wp2_with fail
   refine (rsum_any (bys key) (some ⟨w.heap.size,0,none⟩) key.size cb wb hRb (bys_byt key) hs (HK.out.below hBb)).mono ?_
   rintro e w1 ⟨rfl,hB1⟩
   have hz1 := hB1.size
   clear hcb hRb
   go_wp2_with fail
   refine (bytes32_any (sha (bys key)) w1 (sha_length _)).mono ?_
   rintro e w2 ⟨rfl,hB2⟩
   go_wp2_with fail
   go_meet
   case rel => exact ⟨by rw [HE.out],(hBb.trans (hB1.mono hzb)).trans (hB2.mono (by omega))⟩
  ·have HE : Hid (strOf (keyL key) = key) := hid (by unfold keyL;rw [if_neg h64,strOf_bys])
   go_wp2_with fail
   go_meet
   case rel => exact ⟨by rw [HE.out],Below.refl _ _⟩
 case rest =>
  obtain ⟨rfl,hB⟩ := hcut
  obtain ⟨wd,rfl⟩ : ∃ x : World,x = wc := ⟨_,rfl⟩
  have HA : Hid (∀ i (h : i < (strOf (keyL key)).size),((strOf (keyL key))[i].toNat : Int) = (keyL key).getD i 0) := hid (fun i h => by rw [bys_get,bys_strOf _ HKB.out])
  have HN : Hid (∀ i,¬ i < (strOf (keyL key)).size → (keyL key).getD i 0 = 0) := hid (fun i h => by
   rw [strOf_size] at h
   rw [List.getD_eq_getElem?_getD,List.getElem?_eq_none (by omega)];rfl)
  have HT : Hid (∀ t,t < 64 → u8s ((padX (keyL key) x).take t) ++ [.int .u8 (bits .xor .u8 ((keyL key).getD t 0) x)] = u8s ((padX (keyL key) x).take (t + 1))) := hid (fun t h => padX_take _ _ t h)
  have hks : (strOf (keyL key)).size ≤ 64 := by rw [strOf_size];exact HKL.out
  have HTF : Hid ((padX (keyL key) x).take 64 = padX (keyL key) x) := hid (List.take_of_length_le (by rw [padX_length];omega))
  have HT0 : Hid (u8s ((padX (keyL key) x).take 0) = []) := hid (by simp [u8s])
  generalize strOf (keyL key) = ks at *
  go_wp2_with fail
  go_loopw [7,6] (fun i s6 wr => ∃ (t : Nat) (A : Option Addr) (c : Nat),t ≤ 64 ∧ i = .int .i64 t ∧ s6 = .slice A t c ∧ wr.ownsRow w.heap.size 5 1 (.slice A t c) t (u8s ((padX (keyL key) x).take t)) ∧ Below w.heap.size w wr) (fun i _ _ => 64 - (intOf i).toNat)
  case atStart => exact ⟨0,none,0,by omega,rfl,rfl,by rw [HT0.out];exact World.ownsRow_nil _ _ _ _,hB⟩
  case round =>
   clear hB
   obtain ⟨t,A,c,ht,rfl,rfl,hown,hB⟩ := hrel
   have hsz := hB.size
   by_cases hlt : t < 64
   ·have HT2 := hid (HT.out t hlt)
    by_cases hk : t < ks.size
    ·have hx := HA.out t hk
     generalize (keyL key).getD t 0 = y at *
     go_wp2_with (at_builtin;refine wpList_app rfl (.tmp 28) (.tmp 32) 23 rfl w.heap.size 5 i0 (.int .u8 0) 1 1 Tryz.underlying23 hi hz0 hz1 hz2 rfl (by omega) A t c _ rfl (hown.alloc _) (wr.heap.size + 1) _ 1 1 [.int .u8 (bits .xor .u8 y x)] rfl (RdN.fresh [_] _ _ 1 1 rfl rfl rfl) (wone_u8 _) (by simp only [maxLen];omega) (by omega) (by simp;omega) ?_;intro A4 c4 w4 hown4 hg4;have hb4 := below_app (hB.alloc (by omega) _) hg4 (hown.alloc _) (Nat.le_refl _) (by simp;omega))
     go_roundw
     case rel => exact ⟨t + 1,A4,c4,by omega,by go_num,rfl,by rw [← HT2.out];exact hown4,hb4⟩
     case measure => simp [intOf];omega
    ·have hx := HN.out t hk
     rw [hx] at HT2
     clear hx
     go_wp2_with (at_builtin;refine wpList_app rfl (.tmp 28) (.tmp 32) 23 rfl w.heap.size 5 i0 (.int .u8 0) 1 1 Tryz.underlying23 hi hz0 hz1 hz2 rfl (by omega) A t c _ rfl (hown.alloc _) (wr.heap.size + 1) _ 1 1 [.int .u8 (bits .xor .u8 0 x)] rfl (RdN.fresh [_] _ _ 1 1 rfl rfl rfl) (wone_u8 _) (by simp only [maxLen];omega) (by omega) (by simp;omega) ?_;intro A4 c4 w4 hown4 hg4;have hb4 := below_app (hB.alloc (by omega) _) hg4 (hown.alloc _) (Nat.le_refl _) (by simp;omega))
     go_roundw
     case rel => exact ⟨t + 1,A4,c4,by omega,by go_num,rfl,by rw [← HT2.out];exact hown4,hb4⟩
     case measure => simp [intOf];omega
   ·obtain rfl : t = 64 := by omega
    rw [HTF.out] at hown
    go_wp2_with fail
    go_ret
    exact ⟨⟨A,c,rfl,hown⟩,hB⟩
theorem rmac_any (key text : ByteArray) (w : World) (hs : key.size ≤ 1000000000000) (ht : text.size ≤ 100000000000) (hK : RTab w) :
  Calls Tryz.prog 134 #[.string key,.string text] w fun e w' => e = .returned (.string (strOf (macL key text))) ∧ Below w.heap.size w w' := by
 obtain ⟨i0,hi,hz0,hz1,hz2⟩ := info_parts winfo_u8
 have HK := hid hK
 have HBI : Hid (Byt (padX (keyL key) 54 ++ bys text)) := hid ((padX_byt _ _).app (bys_byt _))
 have HBO : Hid (Byt (padX (keyL key) 92 ++ bys (strOf (macI key text)))) := hid ((padX_byt _ _).app (bys_byt _))
 have HLI : Hid ((strOf (macI key text)).size = 32) := hid (by rw [strOf_size];exact sha_length _)
 have HML : Hid (sha (padX (keyL key) 92 ++ bys (strOf (macI key text))) = macL key text) := hid (by rw [bys_strOf _ (by unfold macI;exact sha_byt _)];rfl)
 have HMI : Hid (sha (padX (keyL key) 54 ++ bys text) = macI key text) := hid rfl
 have HM32 : Hid ((macI key text).length = 32) := hid (sha_length _)
 have HL32 : Hid ((macL key text).length = 32) := hid (sha_length _)
 generalize hsi : strOf (macI key text) = si at *
 generalize hso : strOf (macL key text) = so at *
 generalize macI key text = MI at *
 generalize macL key text = ML at *
 have HSI := hid hsi
 have HSO := hid hso
 clear hsi hso
 obtain ⟨N,hN⟩ : ∃ N,N = 64 := ⟨_,rfl⟩
 have HPK : Hid (∀ (x : Int) (W : World),RTab W → Calls Tryz.prog 163 #[.string key,.int .u8 x] W fun e w' => (∃ A c,e = .returned (.slice A N c) ∧ w'.ownsRow W.heap.size 5 1 (.slice A N c) N (u8s (padX (keyL key) x))) ∧ Below W.heap.size W w') := hid (fun x W h => by rw [hN];exact padKey_any key x W hs h)
 have hN1 : N ≤ 64 := by omega
 clear hK hN
 go_enter Tryz.func134,Tryz.ntmps134
 go_wp2_with (first
  | (go_at_call 163;with_reducible refine (HPK.out 54 _ HK.out).mono ?_;rintro e w1 ⟨⟨A1,c1,rfl,hown1⟩,hB1⟩;have hz1' := hB1.size)
  | (at_builtin;refine wpList_app_str rfl (.tmp 9) (.tmp 10) 23 9 rfl w.heap.size 5 i0 Tryz.underlying23 Tryz.underlying9 hi hz0 hz1 hz2 A1 N c1 _ rfl hown1 text rfl (by simp only [maxLen];omega) (by omega) hz1' ?_;intro A2 c2 w2 hown2 hg2;have hb2 := below_app hB1 hg2 hown1 (Nat.le_refl _) hz1';have hz2' := hb2.size;rw [← u8s_append] at hown2;clear hown1 hg2)
  | (go_at_call 163;with_reducible refine (HPK.out 92 _ (HK.out.below hb2)).mono ?_;rintro e w3 ⟨⟨A3,c3,rfl,hown3⟩,hB3⟩;have hz3' := hB3.size;have hown2' := own_below hown2 hB3;have hb3 := hb2.trans (hB3.mono hz2');clear hown2)
  | (go_at_call 135;with_reducible refine (rsum_any _ A2 (N + text.size) c2 w3 (Rd.of_own hown2') HBI.out (by omega) (HK.out.below hb3)).mono ?_;rintro e w4 ⟨rfl,hB4⟩;have hz4' := hB4.size;rw [HMI.out];have hown3' := own_below hown3 hB4;have hb4 := hb3.trans (hB4.mono (by omega));clear hown3 hown2')
  | (go_at_call 164;with_reducible refine (bytes32_any MI w4 HM32.out).mono ?_;rintro e w5 ⟨rfl,hB5⟩;rw [HSI.out];have hz5' := hB5.size;have hown5 := own_below hown3' hB5;have hb5 := hb4.trans (hB5.mono (by omega));clear hown3')
  | (at_builtin;refine wpList_app_str rfl (.tmp 14) (.tmp 17) 23 9 rfl w.heap.size 5 i0 Tryz.underlying23 Tryz.underlying9 hi hz0 hz1 hz2 A3 N c3 _ rfl (hown5.mono hz2') si rfl (by rw [HLI.out];simp only [maxLen];omega) (by rw [HLI.out];omega) (by omega) ?_;intro A6 c6 w6 hown6 hg6;have hb6 := below_app hb5 hg6 (hown5.mono hz2') (Nat.le_refl _) (by omega);have hz6' := hb6.size;rw [← u8s_append] at hown6;clear hown5 hg6)
  | (go_at_call 135;with_reducible refine (rsum_any _ A6 _ c6 w6 (Rd.of_own hown6) HBO.out (by rw [HLI.out];omega) (HK.out.below hb6)).mono ?_;rintro e w7 ⟨rfl,hB7⟩;have hz7' := hB7.size;rw [HML.out];have hb7 := hb6.trans (hB7.mono hz6');clear hown6)
  | (go_at_call 164;with_reducible refine (bytes32_any ML w7 HL32.out).mono ?_;rintro e w8 ⟨rfl,hB8⟩;rw [HSO.out];have hb8 := hb7.trans (hB8.mono (by omega))))
 all_goals go_ret
 all_goals exact ⟨rfl,hb8⟩
end Go.Proofs.YtjeecfjeooehhaaGreatDoor
/- The walk of hash.Mac. No condition. -/
namespace Go.Proofs.YtjeecfjeooehhaaGreatDoor
open Go.RowKit
open Lib (hid)
theorem zero32_run (W : World) : (zeroValue 189).run Tryz.prog W = .ok (.agg (u8s (List.replicate 32 0)).toArray) W := by kernel_rfl
theorem keyL_len64 (key : ByteArray) : (strOf (keyL key)).size ≤ 64 := by rw [strOf_size];exact keyL_length key
attribute [local go_sem ↓] wp_at_zero wp_at_succ
theorem mac_any (key text : ByteArray) (w : World) (hs : key.size ≤ 1000000000000) (ht : text.size ≤ 100000000000) (hK : KTab w) :
  Calls Tryz.prog 131 #[.string key,.string text] w fun e w' => e = .returned (.string (strOf (macL key text))) ∧ Below w.heap.size w w' := by
 have HK := hid hK
 have HKL := hid (keyL_len64 key)
 have HBK := hid (bys_strOf _ (keyL_byt key))
 have HML : Hid (sha (padX (keyL key) 92 ++ bys (strOf (macI key text))) = macL key text) := hid (by rw [bys_strOf _ (by unfold macI;exact sha_byt _)];rfl)
 have HMI : Hid (sha (padX (keyL key) 54 ++ bys text) = macI key text) := hid rfl
 have HM32 : Hid ((macI key text).length = 32) := hid (sha_length _)
 have HL32 : Hid ((macL key text).length = 32) := hid (sha_length _)
 have HMB : Hid (Byt (macI key text)) := hid (sha_byt _)
 have HP1 := hid (padX_byt (keyL key) 54)
 have HP2 := hid (padX_byt (keyL key) 92)
 have HQ1 := hid (padX_length (keyL key) 54)
 have HQ2 := hid (padX_length (keyL key) 92)
 have HKEY : Hid (strOf (keyL key) = if 64 < key.size then strOf (sha (bys key)) else key) := hid (by unfold keyL;split;rfl;exact strOf_bys _)
 clear hK
 generalize hkk : strOf (keyL key) = kk at *
 generalize keyL key = kl at *
 generalize macI key text = MI at *
 generalize macL key text = ML at *
 have HKK := hid hkk
 clear hkk
 go_enter Tryz.func131,Tryz.ntmps131
 obtain ⟨w0,hw0⟩ : ∃ w0,w0 = w.alloc (.cells #[.string key] 9) := ⟨_,rfl⟩
 have hE0 : Ext w w0 := by rw [hw0];exact (Ext.refl _).alloc _
 have hb0 : Blk w0 w.heap.size 9 [.string key] := by rw [hw0];exact Blk.fresh _ _ _
 go_upto_if 11 with (fail)
 rw [← hw0]
 clear hw0
 go_cut [] (fun wx => Blk wx w.heap.size 9 [.string kk] ∧ Below w.heap.size w wx)
 case first =>
  have c0 := hb0.cell 0
  have f0 := hb0.frozen 0
  simp only [List.getElem?_cons_zero] at c0
  by_cases h64 : 64 < key.size
  ·have HE : Hid (kk = strOf (sha (bys key))) := hid (by rw [HKEY.out,if_pos h64])
   have HE0 := hid hE0
   obtain ⟨cb,wb,hcb,hRb,hBb⟩ := run_toBytes (P := Tryz.prog) w0 9 23 5 key Tryz.underlying9 Tryz.underlying23 Tryz.underlying5
   have HBB := hid hBb
   have HRB := hid hRb
   have hz0 := hb0.lt
   have HB0 := hid hb0
   clear hE0 hBb hRb hb0
   obtain ⟨U,hU⟩ : ∃ U,U = u8s (sha (bys key)) := ⟨_,rfl⟩
   have HU := hid hU
   have HU1 : Hid (∀ v ∈ U,v.oneCell' = true) := hid (by rw [hU];exact u8s_one _)
   have HL : Hid (U.length = 32) := hid (by rw [hU];simp [u8s,sha_length])
   clear hU
   go_wp2_with (first
    | (go_at_call 161;(refine (sum_any (bys key) (some ⟨w0.heap.size,0,none⟩) key.size cb wb HRB.out (bys_byt key) hs (HK.out.below (HE0.out.next HBB.out))).mono ?_);rintro e w1 ⟨rfl,hB1⟩;rw [← HU.out];clear hcb;have hE1 := hid (((Ext.refl w0).next HBB.out).next hB1);have hz1 := hE1.out.size;clear hB1)
    | ((refine wpList_store_fresh rfl 189 (.tmp 5) (.tmp 14) rfl _ w1.heap.size rfl (u8s (List.replicate 32 0)) U 189 (by rfl) (by rfl) rfl (info_32u8.trans (congrArg some HL.out.symm)) HL.out.symm HU1.out ?_);intro w2 hw2 hE2 hz2;have hF2 := hid (hE1.out.next hE2);have hcv := run_toStr (P := Tryz.prog) Tryz.underlying23 Tryz.underlying5 Tryz.underlying9 (l := sha (bys key)) (by rw [← HU.out];exact hw2.rd HL.out) 32 (fun h => by omega);rw [← HE.out] at hcv;have HW2 := hid hw2;have c2 := ((HB0.out.ext hF2.out).cell 0);have f2 := (HB0.out.ext hF2.out).frozen 0;clear hw2 hE2))
   go_meet
   case rel => exact ⟨(HB0.out.ext hF2.out).set 0 _,(HE0.out.next hF2.out).setCell (by simp) _⟩
  ·have HE : Hid (kk = key) := hid (by rw [HKEY.out,if_neg h64])
   go_wp2_with fail
   go_meet
   case rel => exact ⟨by rw [HE.out];exact hb0,hE0⟩
 case rest =>
  obtain ⟨hbk,hE⟩ := hcut
  obtain ⟨wb,rfl⟩ : ∃ x : World,x = wc := ⟨_,rfl⟩
  have HE : Hid (Ext w wb) := hid hE
  have HBB := hid hbk
  have HKB := hid (HK.out.below hE)
  have hk64 := HKL.out
  clear hE hbk hb0 hE0
  obtain ⟨s1,hs1⟩ : ∃ s,s = strOf (padX kl 54) := ⟨_,rfl⟩
  obtain ⟨s2,hs2⟩ : ∃ s,s = strOf (padX kl 92) := ⟨_,rfl⟩
  obtain ⟨s3,hs3⟩ : ∃ s,s = strOf MI := ⟨_,rfl⟩
  obtain ⟨s4,hs4⟩ : ∃ s,s = strOf ML := ⟨_,rfl⟩
  have HB1 : Hid (bys s1 = padX kl 54) := hid (by rw [hs1];exact bys_strOf _ HP1.out)
  have HB2 : Hid (bys s2 = padX kl 92) := hid (by rw [hs2];exact bys_strOf _ HP2.out)
  have HZ1 : s1.size ≤ 64 := by rw [hs1,strOf_size,HQ1.out];omega
  have HZ2 : s2.size ≤ 64 := by rw [hs2,strOf_size,HQ2.out];omega
  have HZ3 : s3.size ≤ 64 := by rw [hs3,strOf_size,HM32.out];omega
  rw [← hs3] at HML
  have HS1 := hid hs1;have HS2 := hid hs2;have HS3 := hid hs3;have HS4 := hid hs4
  clear hs1 hs2 hs3 hs4
  obtain ⟨U,hU⟩ : ∃ U,U = u8s MI := ⟨_,rfl⟩
  have HU := hid hU
  have HUL : Hid (U.length = 32) := hid (by rw [hU,u8s_length,HM32.out])
  have HU1 : Hid (∀ v ∈ U,v.oneCell' = true) := hid (by rw [hU];exact u8s_one _)
  obtain ⟨V,hV⟩ : ∃ V,V = u8s ML := ⟨_,rfl⟩
  have HV := hid hV
  have HVL : Hid (V.length = 32) := hid (by rw [hV,u8s_length,HL32.out])
  have HV1 : Hid (∀ v ∈ V,v.oneCell' = true) := hid (by rw [hV];exact u8s_one _)
  clear hU hV
  obtain ⟨Z,hZ⟩ : ∃ Z,Z = u8s (List.replicate 32 0) := ⟨_,rfl⟩
  have hzr : ∀ W,(zeroValue 189).run Tryz.prog W = .ok (.agg Z.toArray) W := by rw [hZ];exact zero32_run
  have HZL : Hid (Z.length = 32) := hid (by rw [hZ];rfl)
  clear hZ
  have HA1 : Hid (([] : List Int).length + s1.size ≤ 4611686018427387904) := hid (by rw [List.length_nil];omega)
  have HA2 : Hid ((padX kl 54).length + text.size ≤ 4611686018427387904) := hid (by rw [HQ1.out];omega)
  have HA3 : Hid ((padX kl 54 ++ bys text).length ≤ 1000000000000) := hid (by rw [List.length_append,HQ1.out,bys_length];omega)
  have HZS : Hid (IsStream initS [] (List.replicate 64 0)) := hid zero_stream
  go_upto_region 6 with (first
   | (go_at_call 136;(with_reducible refine (begin_any _).mono ?_);rintro e w1 ⟨rfl,hB1⟩;have hE1 := hid ((Ext.refl wb).next hB1);have hz1 := hE1.out.size;clear hB1)
   | (go_at_call 162;(with_reducible refine (mac1_any kk w.heap.size 54 w1 (HBB.out.ext hE1.out).one (HBB.out.ext hE1.out).lt hk64).mono ?_);rintro e w2 ⟨rfl,hB2⟩;rw [HBK.out,← HS1.out];have hE2 := hid (hE1.out.next hB2);clear hB2)
   | (go_at_call 137;(with_reducible refine (add_any initS [] (List.replicate 64 0) s1 w2 HZS.out HA1.out (HKB.out.below hE2.out)).mono ?_);rintro e w3 ⟨⟨cs,blk,rfl,hI⟩,hB3⟩;rw [List.nil_append,HB1.out] at hI;have HI := hid hI;have hE3 := hid (hE2.out.next hB3);clear hB3 hI)
   | (go_at_call 137;(with_reducible refine (add_any cs (padX kl 54) blk text w3 HI.out HA2.out (HKB.out.below hE3.out)).mono ?_);rintro e w4 ⟨⟨cs4,blk4,rfl,hI⟩,hB3⟩;have HI4 := hid hI;have hE4 := hid (hE3.out.next hB3);clear hB3 hI)
   | (go_at_call 138;(with_reducible refine (ssum_any cs4 _ blk4 w4 HI4.out HA3.out (HKB.out.below hE4.out)).mono ?_);rintro e w5 ⟨rfl,hB3⟩;rw [HMI.out,← HU.out];have hE5 := hid (hE4.out.next hB3);clear hB3)
   | ((refine wpList_store_fresh rfl 189 (.tmp 7) (.tmp 24) rfl _ w5.heap.size rfl Z U 189 (by rfl) (by rfl) rfl (info_32u8.trans (congrArg some HUL.out.symm)) (HZL.out.trans HUL.out.symm) HU1.out ?_);intro w6 hw6 hE6 hz6;have HE6 := hid (hE5.out.next hE6);have HW6 := hid hw6;clear hw6 hE6))
  clear hk64
  have HK6 := hid (HKB.out.below HE6.out)
  have HB6 := hid (HBB.out.ext HE6.out)
  obtain ⟨p7,hp7⟩ : ∃ p,p = w5.heap.size := ⟨_,rfl⟩
  rw [← hp7] at HW6 ⊢
  clear hp7
  have HEW : Hid (Ext w w6) := hid (HE.out.next HE6.out)
  have HCV : Hid (∀ W,Ext w6 W → (convert 23 9 (.slice (some ⟨p7,0,none⟩) 32 32)).run Tryz.prog W = .ok (.string s3) W) := hid (fun W h => by
   rw [HS3.out]
   exact run_toStr (P := Tryz.prog) Tryz.underlying23 Tryz.underlying5 Tryz.underlying9 (l := MI) (by rw [← HU.out];exact (HW6.out.ext h).rd HUL.out) 32 (fun h => by omega))
  have HA4 : Hid (([] : List Int).length + s2.size ≤ 4611686018427387904) := hid (by rw [List.length_nil];omega)
  have HA5 : Hid ((padX kl 92).length + s3.size ≤ 4611686018427387904) := hid (by rw [HQ2.out];omega)
  have HA6 : Hid ((padX kl 92 ++ bys s3).length ≤ 1000000000000) := hid (by rw [List.length_append,HQ2.out,bys_length];omega)
  have hk64 := HKL.out
  have hvl := HVL.out
  have HE6d : Hid (Ext w6 w6.drew) := hid (Ext.refl w6).drew
  have hcv0 := HCV.out _ HE6d.out
  have hcv0' := fun o => HCV.out _ (((Ext.refl w6).alloc o).drew)
  have HFR : Hid (∀ W : World,Blk (W.alloc (.cells Z.toArray 189)) W.heap.size 189 Z) := hid (fun W => Blk.fresh W _ Z)
  go_region_with (first
   | (go_at_call 136;(with_reducible refine (begin_any _).mono ?_);rintro e w7 ⟨rfl,hB7⟩;have hE7 : Hid (Ext w6 w7) := hid (by first | exact HE6d.out.next hB7 | exact (HE6d.out.alloc _).next hB7);(first | (have hz8 : Hid (Blk w7 w6.heap.size 189 Z) := hid ((HFR.out w6.drew).below hB7 (HFR.out w6.drew).lt)) | skip);have hcv := HCV.out _ hE7.out;have hcv' := fun o => HCV.out _ (hE7.out.alloc o);clear hB7)
   | (go_at_call 162;(with_reducible refine (mac1_any kk w.heap.size 92 _ (by first | exact (HB6.out.ext hE7.out).one | exact (HB6.out.ext (hE7.out.alloc _)).one) (by first | exact (HB6.out.ext hE7.out).lt | exact (HB6.out.ext (hE7.out.alloc _)).lt) hk64).mono ?_);rintro e w8 ⟨rfl,hB8⟩;rw [HBK.out,← HS2.out];have hE8 : Hid (Ext w6 w8) := hid (by first | exact hE7.out.next hB8 | exact (hE7.out.alloc _).next hB8);(first | (have hz8 := hid (hz8.out.below hB8 hz8.out.lt)) | (have hz8 := hid ((HFR.out w7).below hB8 (HFR.out w7).lt)) | skip);have hcv := HCV.out _ hE8.out;have hcv' := fun o => HCV.out _ (hE8.out.alloc o);clear hB8)
   | (go_at_call 137;(with_reducible refine (add_any initS [] (List.replicate 64 0) s2 _ HZS.out HA4.out (by first | exact HK6.out.below hE8.out | exact HK6.out.below (hE8.out.alloc _))).mono ?_);rintro e w9 ⟨⟨cs9,blk9,rfl,hI⟩,hB9⟩;rw [List.nil_append,HB2.out] at hI;have HI9 := hid hI;have hE9 : Hid (Ext w6 w9) := hid (by first | exact hE8.out.next hB9 | exact (hE8.out.alloc _).next hB9);(first | (have hz8 := hid (hz8.out.below hB9 hz8.out.lt)) | (have hz8 := hid ((HFR.out w8).below hB9 (HFR.out w8).lt)) | skip);have hcv := HCV.out _ hE9.out;have hcv' := fun o => HCV.out _ (hE9.out.alloc o);clear hB9 hI)
   | (go_at_call 137;(with_reducible refine (add_any cs9 (padX kl 92) blk9 s3 _ HI9.out HA5.out (by first | exact HK6.out.below hE9.out | exact HK6.out.below (hE9.out.alloc _))).mono ?_);rintro e w10 ⟨⟨cs10,blk10,rfl,hI⟩,hB10⟩;have HI10 := hid hI;have hE10 : Hid (Ext w6 w10) := hid (by first | exact hE9.out.next hB10 | exact (hE9.out.alloc _).next hB10);(first | (have hz8 := hid (hz8.out.below hB10 hz8.out.lt)) | (have hz8 := hid ((HFR.out w9).below hB10 (HFR.out w9).lt)) | skip);clear hB10 hI)
   | (go_at_call 138;(with_reducible refine (ssum_any cs10 _ blk10 _ HI10.out HA6.out (by first | exact HK6.out.below hE10.out | exact HK6.out.below (hE10.out.alloc _))).mono ?_);rintro e w11 ⟨rfl,hB11⟩;rw [HML.out,← HV.out];have hE11 : Hid (Ext w6 w11) := hid (by first | exact hE10.out.next hB11 | exact (hE10.out.alloc _).next hB11);(first | (have hz8 := hid (hz8.out.below hB11 hz8.out.lt)) | (have hz8 := hid ((HFR.out w10).below hB11 (HFR.out w10).lt)) | (have hz8 := hid (HFR.out w11)));have hst := run_store_blk (P := Tryz.prog) hz8.out (HZL.out.trans HVL.out.symm) HV1.out;clear hB11))
  all_goals
   clear hst hcv0 hcv0'
   have HB12 := hid (hz8.out.setRow V)
   have hcv2 := run_toStr (P := Tryz.prog) Tryz.underlying23 Tryz.underlying5 Tryz.underlying9 (l := ML) (by rw [← HV.out];exact HB12.out.rd HVL.out) 32 (fun h => by omega)
   rw [← HS4.out] at hcv2
   go_wp2_with fail
   go_ret
   refine ⟨by rw [HS4.out];rfl,?_⟩
   first
    | exact HEW.out.next (hE11.out.setRow (Nat.le_refl _) _)
    | exact HEW.out.next (hE11.out.setRow hE10.out.size _)
    | exact HEW.out.next (hE11.out.setRow hE9.out.size _)
    | exact HEW.out.next (hE11.out.setRow hE8.out.size _)
    | exact HEW.out.next (hE11.out.setRow hE7.out.size _)
    | exact HEW.out.next ((hE11.out.alloc _).setRow hE11.out.size _)
end Go.Proofs.YtjeecfjeooehhaaGreatDoor
