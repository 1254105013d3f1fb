/- The examples of the law package about hashes: its sanity check answers true wherever the table of the round constants lies. No condition. -/
import Derived.Test.YtheaniplpmkhlaaDoorMacC
import Derived.Test.YtheaniplpmkhlaaDoorHashG
import Derived.Test.YtheaniplpmkhlaaDoorHashH
import Derived.Stop.BytesEq
import Derived.Lib.SlBytesConst
import Derived.Outline
namespace Go.Proofs.YtheaniplpmkhlaaDoor
open Go.RowKit
/-- Two rows of bytes compared. -/
theorem run_equalIn_u8s {P : Program} (w : World) (d : Nat) (t e : TypeId) (n : Nat) (ht : P.underlying t = some (.array n e)) (he : P.underlying e = some (.int .u8)) (hsz : ∀ w, (sizeOf e).run P w = .ok 1 w)
    (l m : List Int) (hl : Byt l) (hm : Byt m) (h1 : l.length = n) (h2 : m.length = n) : (Op.equalIn (d + 2) t (.agg (u8s l).toArray) (.agg (u8s m).toArray)).run P w = .ok (decide (l = m)) w := by
  have hc : ∀ l : List Int, Byt l → u8s l = (l.map fun n => UInt8.ofNat n.toNat).map Extern.Stop.cell := fun l hl => by
    simp only [u8s, List.map_map]
    refine List.map_congr_left fun x hx => ?_
    have := hl x hx
    simp only [Function.comp, Extern.Stop.cell, UInt8.toNat_ofNat']
    have e : x = ((x.toNat % 2 ^ 8 : Nat) : Int) := by omega
    exact congrArg _ e
  rw [hc l hl, hc m hm, run_equalIn_bytes w d t e n ht he hsz _ _ (by simpa using h1) (by simpa using h2)]
  congr 1
  rw [Bool.eq_iff_iff]
  simp only [beq_iff_eq, decide_eq_true_eq]
  constructor
  · intro h
    have h3 : strOf l = strOf m := by unfold strOf; rw [h]
    exact strOf_inj hl hm h3
  · rintro rfl; rfl
theorem byt_abc : Byt [97, 98, 99] := by intro x hx; simp at hx; omega
def abcL : List Int := sha [97, 98, 99]
def jefeK : ByteArray := ⟨#[74, 101, 102, 101]⟩
def jefeT : ByteArray := ⟨#[119, 104, 97, 116, 32, 100, 111, 32, 121, 97, 32, 119, 97, 110, 116, 32, 102, 111, 114, 32, 110, 111, 116, 104, 105, 110, 103, 63]⟩
def sanD : List Int := (sha (inputB 8 [⟨#[97]⟩, ⟨#[]⟩])).take 16
def litA : ByteArray := ⟨#[98, 97, 55, 56, 49, 54, 98, 102, 56, 102, 48, 49, 99, 102, 101, 97, 52, 49, 52, 49, 52, 48, 100, 101, 53, 100, 97, 101, 50, 50, 50, 51, 98, 48, 48, 51, 54, 49, 97, 51, 57, 54, 49, 55, 55, 97, 57, 99, 98, 52, 49, 48, 102, 102, 54, 49, 102, 50, 48, 48, 49, 53, 97, 100]⟩
def litM : ByteArray := ⟨#[53, 98, 100, 99, 99, 49, 52, 54, 98, 102, 54, 48, 55, 53, 52, 101, 54, 97, 48, 52, 50, 52, 50, 54, 48, 56, 57, 53, 55, 53, 99, 55, 53, 97, 48, 48, 51, 102, 48, 56, 57, 100, 50, 55, 51, 57, 56, 51, 57, 100, 101, 99, 53, 56, 98, 57, 54, 52, 101, 99, 51, 56, 52, 51]⟩
def litD : ByteArray := ⟨#[51, 54, 99, 100, 53, 48, 56, 53, 48, 51, 50, 57, 102, 56, 56, 52, 48, 54, 101, 51, 49, 98, 98, 56, 97, 55, 100, 56, 102, 98, 54, 50]⟩
set_option maxRecDepth 100000 in
theorem hex_abc : strOf (hexL abcL) = litA := by kernel_rfl
set_option maxRecDepth 100000 in
theorem hex_mac : strOf (hexL (macL jefeK jefeT)) = litM := by kernel_rfl
set_option maxRecDepth 100000 in
theorem hex_of : strOf (hexL sanD) = litD := by kernel_rfl
theorem encs_san : (encs [⟨#[97]⟩, ⟨#[]⟩]).length ≤ 100000000000 :=
  Nat.le_trans (encs_few _ (by intro s hs; rcases List.mem_cons.1 hs with rfl | hs; decide; rcases List.mem_cons.1 hs with rfl | hs; decide; cases hs)) (by decide)
set_option maxHeartbeats 4000000 in
set_option maxRecDepth 100000 in
theorem sanity_any (w : World) (hK : KTab w) : Calls Tryd.prog 10 #[] w fun e w' => e = .returned (.bool true) ∧ Below w.heap.size w w' := by
  obtain ⟨LA, hLA⟩ : ∃ l, l = abcL := ⟨_, rfl⟩
  have HLA : Hid (sha [97, 98, 99] = LA) := Lib.hid hLA.symm
  have HA32 : Hid (LA.length = 32) := Lib.hid (by rw [hLA]; exact sha_length _)
  have HAB : Hid (Byt LA) := Lib.hid (by rw [hLA]; exact sha_byt _)
  have HAX : Hid (strOf (hexL (bys (strOf LA))) = litA) := Lib.hid (by rw [hLA, bys_strOf abcL (sha_byt _)]; exact hex_abc)
  clear hLA
  obtain ⟨LD, hLD⟩ : ∃ l, l = sanD := ⟨_, rfl⟩
  have HLD : Hid ((sha (inputB 8 [⟨#[97]⟩, ⟨#[]⟩])).take 16 = LD) := Lib.hid hLD.symm
  have HD16 : Hid (LD.length = 16) := Lib.hid (by rw [hLD]; simp [sanD, sha_length])
  have HDX : Hid (strOf (hexL (bys (strOf LD))) = litD) := Lib.hid (by rw [hLD, bys_strOf sanD ((sha_byt _).take _)]; exact hex_of)
  clear hLD
  obtain ⟨SM, hSM⟩ : ∃ s, s = strOf (macL jefeK jefeT) := ⟨_, rfl⟩
  have HSM : Hid (strOf (macL jefeK jefeT) = SM) := Lib.hid hSM.symm
  have HMX : Hid (strOf (hexL (bys SM)) = litM) := Lib.hid (by rw [hSM, bys_strOf (macL jefeK jefeT) (sha_byt _)]; exact hex_mac)
  have HMS : Hid (SM.size = 32) := Lib.hid (by rw [hSM, strOf_size]; exact sha_length _)
  clear hSM
  have HK := Lib.hid hK
  clear hK
  have HZS : Hid (IsStream initS [] (List.replicate 64 0)) := Lib.hid zero_stream
  obtain ⟨Z, hZ⟩ : ∃ Z, Z = u8s (List.replicate 32 0) := ⟨_, rfl⟩
  have hzr : ∀ W, (zeroValue 24).run Tryd.prog W = .ok (.agg Z.toArray) W := by rw [hZ]; exact zero32_run
  have HZL : Hid (Z.length = 32) := Lib.hid (by rw [hZ]; rfl)
  clear hZ
  obtain ⟨ZD, hZ⟩ : ∃ Z, Z = u8s (List.replicate 16 0) := ⟨_, rfl⟩
  have hzd : ∀ W, (zeroValue 44).run Tryd.prog W = .ok (.agg ZD.toArray) W := by rw [hZ]; exact zero16_run
  have HZD : Hid (ZD.length = 16) := Lib.hid (by rw [hZ]; rfl)
  clear hZ
  have HUA : Hid ((u8s LA).length = 32) := Lib.hid (by rw [u8s_length, HA32.out])
  have HUD : Hid ((u8s LD).length = 16) := Lib.hid (by rw [u8s_length, HD16.out])
  have kc := fun (w : World) (C : Array Value) (n c : Nat) => Lib.run_convert_bytes_const (P := Tryd.prog) w 22 5 C n c Tryd.underlying22 Tryd.underlying5
  go_enter Tryd.func10, Tryd.ntmps10
  go_upto_region 2 with (first
    | (go_at_call 11; go_loud (refine (sum_any [97, 98, 99] (some ⟨w.heap.size, 0, none⟩) 3 3 _ (Rd.fresh_fr _ _ _ _ (u8s [97, 98, 99]) 3 rfl rfl) byt_abc (by decide) (HK.out.alloc _)).mono ?_); rintro e w1 ⟨rfl, hB1⟩; rw [HLA.out]; have hE1 := Lib.hid (((Ext.refl w).alloc _).next hB1); clear hB1)
    | ((refine wpList_store_fresh rfl 24 (.tmp 1) (.tmp 9) rfl _ w1.heap.size rfl Z (u8s LA) 24 (by rfl) (by rfl) rfl (info_32u8.trans (congrArg some HUA.out.symm)) (HZL.out.trans HUA.out.symm) (u8s_one LA) ?_); intro w2 hw2 hE2 hz2; have HE2 := Lib.hid (hE1.out.next hE2); have HW2 := Lib.hid hw2; clear hw2 hE2))
  obtain ⟨p1, hp1⟩ : ∃ p, p = w1.heap.size := ⟨_, rfl⟩
  rw [← hp1] at HW2 ⊢
  clear hp1 hz2
  go_upto_region 3 with (first
    | (go_at_call 14; (with_reducible refine (begin_any _).mono ?_); rintro e w3 ⟨rfl, hB3⟩; have hE3 := Lib.hid (HE2.out.next hB3); have hF3 := Lib.hid ((Ext.refl w2).next hB3); clear hB3)
    | (go_at_call 15; (with_reducible refine (add_any initS [] (List.replicate 64 0) _ w3 HZS.out (by decide) (HK.out.below hE3.out)).mono ?_); rintro e w4 ⟨⟨cs4, blk4, rfl, hI⟩, hB4⟩; have HI4 : Hid (IsStream cs4 [97] blk4) := Lib.hid hI; have hE4 := Lib.hid (hE3.out.next hB4); have hF4 := Lib.hid (hF3.out.next hB4); clear hB4 hI)
    | (go_at_call 15; (with_reducible refine (add_any cs4 [97] blk4 _ w4 HI4.out (by decide) (HK.out.below hE4.out)).mono ?_); rintro e w5 ⟨⟨cs5, blk5, rfl, hI⟩, hB5⟩; have HI5 : Hid (IsStream cs5 [97, 98, 99] blk5) := Lib.hid hI; have hE5 := Lib.hid (hE4.out.next hB5); have hF5 := Lib.hid (hF4.out.next hB5); clear hB5 hI)
    | (go_at_call 17; (with_reducible refine (ssum_any cs5 [97, 98, 99] blk5 w5 HI5.out (by decide) (HK.out.below hE5.out)).mono ?_); rintro e w6 ⟨rfl, hB6⟩; rw [HLA.out]; have hE6 := Lib.hid (hE5.out.next hB6); have hF6 := Lib.hid (hF5.out.next hB6); clear hB6)
    | ((refine wpList_store_fresh rfl 24 (.tmp 2) (.tmp 13) rfl _ w6.heap.size rfl Z (u8s LA) 24 (by rfl) (by rfl) rfl (info_32u8.trans (congrArg some HUA.out.symm)) (HZL.out.trans HUA.out.symm) (u8s_one LA) ?_); intro w7 hw7 hE7 hz7; have HE7 := Lib.hid (hE6.out.next hE7); have HF7 := Lib.hid (hF6.out.next hE7); have HW7 := Lib.hid hw7; clear hw7 hE7))
  obtain ⟨p2, hp2⟩ : ∃ p, p = w6.heap.size := ⟨_, rfl⟩
  rw [← hp2] at HW7 ⊢
  have HV7 := Lib.hid (HW2.out.ext HF7.out)
  clear hp2 hz7 kc hzr
  go_upto_region 4 with (first
    | (go_at_call 21; (refine (of_any 8 [⟨#[97]⟩, ⟨#[]⟩] (some ⟨w7.heap.size, 0, none⟩) 2 2 _ (Rd.fresh_fr w7 _ 9 _ (strs [⟨#[97]⟩, ⟨#[]⟩]) 2 rfl rfl) (by decide) encs_san (HK.out.below (HE7.out.alloc _))).mono ?_); rintro e w8 ⟨rfl, hB8⟩; rw [HLD.out]; have hE8 := Lib.hid ((HE7.out.alloc _).next hB8); have hF8 := Lib.hid (((Ext.refl w7).alloc _).next hB8); clear hB8)
    | ((refine wpList_store_fresh rfl 44 (.tmp 3) (.tmp 15) rfl _ w8.heap.size rfl ZD (u8s LD) 44 (by rfl) (by rfl) rfl (info_16u8.trans (congrArg some HUD.out.symm)) (HZD.out.trans HUD.out.symm) (u8s_one LD) ?_); intro w9 hw9 hE9 hz9; have HE9 := Lib.hid (hE8.out.next hE9); have HF9 := Lib.hid (hF8.out.next hE9); have HW9 := Lib.hid hw9; clear hw9 hE9))
  obtain ⟨p3, hp3⟩ : ∃ p, p = w8.heap.size := ⟨_, rfl⟩
  rw [← hp3] at HW9 ⊢
  have HV9 := Lib.hid (HV7.out.ext HF9.out)
  have HX9 := Lib.hid (HW7.out.ext HF9.out)
  clear hp3 hz9 hzd
  go_upto_region 7 with (first
    | (go_at_call 18; (refine (mac_any jefeK jefeT w9 (by decide) (by decide) (HK.out.below HE9.out)).mono ?_); rintro e w10 ⟨rfl, hB10⟩; rw [HSM.out]; have hE10 := Lib.hid (HE9.out.next hB10); have hF10 := Lib.hid ((Ext.refl w9).next hB10); clear hB10)
    | (go_at_call 24; (with_reducible refine (equal_any ⟨#[97, 98]⟩ ⟨#[97, 98]⟩ w10 (by decide) (by decide)).mono ?_); rintro e w11 ⟨rfl, hd⟩; rw [decide_eq_true (rfl : (⟨#[97, 98]⟩ : ByteArray) = ⟨#[97, 98]⟩)]; have hE11 := Lib.hid (hE10.out.next (hd.below _)); have hF11 := Lib.hid (hF10.out.next (hd.below _)); clear hd)
    | (go_at_call 24; (with_reducible refine (equal_any ⟨#[97, 98]⟩ ⟨#[97, 99]⟩ w11 (by decide) (by decide)).mono ?_); rintro e w12 ⟨rfl, hd⟩; rw [decide_eq_false (by decide : ¬ (⟨#[97, 98]⟩ : ByteArray) = ⟨#[97, 99]⟩)]; have hE12 := Lib.hid (hE11.out.next (hd.below _)); have hF12 := Lib.hid (hF11.out.next (hd.below _)); clear hd)
    | (go_at_call 24; (with_reducible refine (equal_any ⟨#[]⟩ ⟨#[97]⟩ w12 (by decide) (by decide)).mono ?_); rintro e w13 ⟨rfl, hd⟩; rw [decide_eq_false (by decide : ¬ (⟨#[]⟩ : ByteArray) = ⟨#[97]⟩)]; have hE13 := Lib.hid (hE12.out.next (hd.below _)); have hF13 := Lib.hid (hF12.out.next (hd.below _)); clear hd))
  have HA := Lib.hid (HV9.out.ext hF13.out)
  have HB := Lib.hid (HX9.out.ext hF13.out)
  have HD := Lib.hid (HW9.out.ext hF13.out)
  have hq : ∀ W, (Op.equalIn 10000 24 (.agg (u8s LA).toArray) (.agg (u8s LA).toArray)).run Tryd.prog W = .ok true W := fun W => by
    have := run_equalIn_u8s (P := Tryd.prog) W 9998 24 5 32 Tryd.underlying24 Tryd.underlying5 (fun _ => by kernel_rfl) LA LA HAB.out HAB.out HA32.out HA32.out
    rw [this, decide_eq_true rfl]
  have hbA : (bys (strOf LA)).length ≤ 32 := by rw [bys_length, strOf_size, HA32.out]; omega
  have HSZA : Hid ((strOf LA).size ≤ 1000000000) := Lib.hid (by rw [strOf_size, HA32.out]; decide)
  have HSZD : Hid ((strOf LD).size ≤ 1000000000) := Lib.hid (by rw [strOf_size, HD16.out]; decide)
  have HSZM : Hid (SM.size ≤ 1000000000) := Lib.hid (by rw [HMS.out]; decide)
  clear hbA
  go_wp2_with (first
    | (refine wpList_load_want (by rfl) 24 (.tmp 1) (by rfl) p1 (by rfl) HA.out Tryd.underlying24 rfl (info_32u8.trans (congrArg some HUA.out.symm)) ?_)
    | (go_at_call 20; (with_reducible refine (bytes32_any LA w13 HA32.out).mono ?_); rintro e w14 ⟨rfl, hB14⟩; have hE14 := Lib.hid (hE13.out.next hB14); have hF14 := Lib.hid ((Ext.refl w13).next hB14); clear hB14)
    | (go_at_call 25; (with_reducible refine (hex_any (strOf LA) w14 HSZA.out).mono ?_); rintro e w15 ⟨rfl, hB15⟩; rw [HAX.out]; unfold litA; have hE15 := Lib.hid (hE14.out.next hB15); have hF15 := Lib.hid (hF14.out.next hB15); clear hB15)
    | (refine wpList_load_want (by rfl) 24 (.tmp 1) (by rfl) p1 (by rfl) (HA.out.ext hF15.out) Tryd.underlying24 rfl (info_32u8.trans (congrArg some HUA.out.symm)) ?_)
    | (refine wpList_load_want (by rfl) 24 (.tmp 2) (by rfl) p2 (by rfl) (HB.out.ext hF15.out) Tryd.underlying24 rfl (info_32u8.trans (congrArg some HUA.out.symm)) ?_)
    | (go_at_call 25; (with_reducible refine (hex_any SM w15 HSZM.out).mono ?_); rintro e w16 ⟨rfl, hB15⟩; rw [HMX.out]; unfold litM; have hE16 := Lib.hid (hE15.out.next hB15); have hF16 := Lib.hid (hF15.out.next hB15); clear hB15)
    | (refine wpList_load_want (by rfl) 44 (.tmp 3) (by rfl) p3 (by rfl) (HD.out.ext hF16.out) Tryd.underlying44 rfl (info_16u8.trans (congrArg some HUD.out.symm)) ?_)
    | (go_at_call 26; (with_reducible refine (text_any LD w16 HD16.out).mono ?_); rintro e w17 ⟨rfl, hB15⟩; have hE17 := Lib.hid (hE16.out.next hB15); clear hB15)
    | (go_at_call 25; (with_reducible refine (hex_any (strOf LD) w17 HSZD.out).mono ?_); rintro e w18 ⟨rfl, hB15⟩; rw [HDX.out]; unfold litD; have hE18 := Lib.hid (hE17.out.next hB15); clear hB15))
  go_ret
  exact ⟨rfl, hE18.out⟩
end Go.Proofs.YtheaniplpmkhlaaDoor
