/- The walk of hash.Mac. No condition. -/
import Derived.Test.YtjeecfjeooehhaaGreatDoorM21
import Derived.Test.YtjeecfjeooehhaaGreatDoorM1
import Derived.Test.YtjeecfjeooehhaaGreatDoorM3
import Derived.Test.YtjeecfjeooehhaaGreatDoorM4
import Derived.Deep.DeepCutAuto
import Derived.Deep.CutBlock
set_option linter.unusedSimpArgs false
set_option linter.unusedVariables false
set_option maxHeartbeats 16000000
set_option maxRecDepth 100000
namespace Go.Proofs.YtjeecfjeooehhaaGreatDoor
open Go.RowKit
open Lib (hid)
section
theorem zero32_run (W:World):(zeroValue 189).run Tryz.prog W=.ok (.agg (u8s (List.replicate 32 0)).toArray) W:=by kernel_rfl
theorem keyL_len64 (key:ByteArray):(strOf (keyL key)).size≤64:=by rw[strOf_size];exact keyL_length key
attribute [local go_sem ↓] wp_at_zero wp_at_succ
theorem mac_any (key text:ByteArray)(w:World)(hs:key.size≤1000000000000)(ht:text.size≤100000000000)(hK:KTab w) :
  Calls Tryz.prog 131 #[.string key,.string text] w fun e w'=>e=.returned (.string (strOf (macL key text)))∧Below w.heap.size w w':=by
 have HK:=hid hK;have HKL:=hid (keyL_len64 key);have HBK:=hid (bys_strOf _ (keyL_byt key));have HML:Hid (sha (padX (keyL key) 92++bys (strOf (macI key text)))=macL key text):=hid (by rw[bys_strOf _ (by unfold macI;exact sha_byt _)];rfl)
 have HMI:Hid (sha (padX (keyL key) 54++bys text)=macI key text):=hid rfl;have HM32:Hid ((macI key text).length=32):=hid (sha_length _);have HL32:Hid ((macL key text).length=32):=hid (sha_length _);have HMB:Hid (Byt (macI key text)):=hid (sha_byt _);have HP1:=hid (padX_byt (keyL key) 54);have HP2:=hid (padX_byt (keyL key) 92);have HQ1:=hid (padX_length (keyL key) 54);have HQ2:=hid (padX_length (keyL key) 92);have HKEY:Hid (strOf (keyL key)=if 64<key.size then strOf (sha (bys key)) else key):=hid (by unfold keyL;split;rfl;exact strOf_bys _)
 clear hK;generalize hkk:strOf (keyL key)=kk at *
 generalize keyL key=kl at *
 generalize macI key text=MI at *
 generalize macL key text=ML at *
 have HKK:=hid hkk;clear hkk;go_enter Tryz.func131,Tryz.ntmps131
 obtain⟨w0,hw0⟩:∃w0,w0=w.alloc (.cells #[.string key] 9):=⟨_,rfl⟩
 have hE0:Ext w w0:=by rw[hw0];exact (Ext.refl _).alloc _
 have hb0:Blk w0 w.heap.size 9 [.string key]:=by rw[hw0];exact Blk.fresh _ _ _
 go_upto_if 11 with (fail)
 rw[←hw0];clear hw0;go_cut [] (fun wx=>Blk wx w.heap.size 9 [.string kk]∧Below w.heap.size w wx)
 case first =>
  have c0:=hb0.cell 0;have f0:=hb0.frozen 0;simp only[List.getElem?_cons_zero] at c0
  by_cases h64:64<key.size
  ·have HE:Hid (kk=strOf (sha (bys key))):=hid (by rw[HKEY.out,if_pos h64])
   have HE0:=hid hE0;obtain⟨cb,wb,hcb,hRb,hBb⟩:=run_toBytes (P:=Tryz.prog) w0 9 23 5 key Tryz.underlying9 Tryz.underlying23 Tryz.underlying5;have HBB:=hid hBb;have HRB:=hid hRb;have hz0:=hb0.lt;have HB0:=hid hb0;clear hE0 hBb hRb hb0;obtain⟨U,hU⟩:∃U,U=u8s (sha (bys key)):=⟨_,rfl⟩
   have HU:=hid hU;have HU1:Hid (∀v∈U,v.oneCell'=true):=hid (by rw[hU];exact u8s_one _)
   have HL:Hid (U.length=32):=hid (by rw[hU];simp [u8s,sha_length])
   clear hU
   go_wp2_with (first
    | (go_at_call 161;(refine (sum_any (bys key) (some ⟨w0.heap.size,0,none⟩) key.size cb wb HRB.out (bys_byt key) hs (HK.out.below (HE0.out.next HBB.out))).mono ?_);rintro e w1 ⟨rfl,hB1⟩;rw[←HU.out];clear hcb;have hE1:=hid (((Ext.refl w0).next HBB.out).next hB1);have hz1:=hE1.out.size;clear hB1)
    | ((refine wpList_store_fresh rfl 189 (.tmp 5) (.tmp 14) rfl _ w1.heap.size rfl (u8s (List.replicate 32 0)) U 189 (by rfl) (by rfl) rfl (info_32u8.trans (congrArg some HL.out.symm)) HL.out.symm HU1.out ?_);intro w2 hw2 hE2 hz2;have hF2:=hid (hE1.out.next hE2);have hcv:=run_toStr (P:=Tryz.prog) Tryz.underlying23 Tryz.underlying5 Tryz.underlying9 (l:=sha (bys key)) (by rw[←HU.out];exact hw2.rd HL.out) 32 (fun h=>by omega);rw[←HE.out] at hcv;have HW2:=hid hw2;have c2:=((HB0.out.ext hF2.out).cell 0);have f2:=(HB0.out.ext hF2.out).frozen 0;clear hw2 hE2))
   go_meet
   case rel=>exact⟨(HB0.out.ext hF2.out).set 0 _,(HE0.out.next hF2.out).setCell (by simp) _⟩
  ·have HE:Hid (kk=key):=hid (by rw[HKEY.out,if_neg h64])
   go_wp2_with fail
   go_meet
   case rel=>exact⟨by rw[HE.out];exact hb0,hE0⟩
 case rest =>
  obtain⟨hbk,hE⟩:=hcut;obtain⟨wb,rfl⟩:∃x:World,x=wc:=⟨_,rfl⟩
  have HE:Hid (Ext w wb):=hid hE;have HBB:=hid hbk;have HKB:=hid (HK.out.below hE);have hk64:=HKL.out;clear hE hbk hb0 hE0;obtain⟨s1,hs1⟩:∃s,s=strOf (padX kl 54):=⟨_,rfl⟩
  obtain⟨s2,hs2⟩:∃s,s=strOf (padX kl 92):=⟨_,rfl⟩
  obtain⟨s3,hs3⟩:∃s,s=strOf MI:=⟨_,rfl⟩
  obtain⟨s4,hs4⟩:∃s,s=strOf ML:=⟨_,rfl⟩
  have HB1:Hid (bys s1=padX kl 54):=hid (by rw[hs1];exact bys_strOf _ HP1.out)
  have HB2:Hid (bys s2=padX kl 92):=hid (by rw[hs2];exact bys_strOf _ HP2.out)
  have HZ1:s1.size≤64:=by rw[hs1,strOf_size,HQ1.out];omega
  have HZ2:s2.size≤64:=by rw[hs2,strOf_size,HQ2.out];omega
  have HZ3:s3.size≤64:=by rw[hs3,strOf_size,HM32.out];omega
  rw[←hs3] at HML;have HS1:=hid hs1;have HS2:=hid hs2;have HS3:=hid hs3;have HS4:=hid hs4;clear hs1 hs2 hs3 hs4;obtain⟨U,hU⟩:∃U,U=u8s MI:=⟨_,rfl⟩
  have HU:=hid hU;have HUL:Hid (U.length=32):=hid (by rw[hU,u8s_length,HM32.out])
  have HU1:Hid (∀v∈U,v.oneCell'=true):=hid (by rw[hU];exact u8s_one _)
  obtain⟨V,hV⟩:∃V,V=u8s ML:=⟨_,rfl⟩
  have HV:=hid hV;have HVL:Hid (V.length=32):=hid (by rw[hV,u8s_length,HL32.out])
  have HV1:Hid (∀v∈V,v.oneCell'=true):=hid (by rw[hV];exact u8s_one _)
  clear hU hV;obtain⟨Z,hZ⟩:∃Z,Z=u8s (List.replicate 32 0):=⟨_,rfl⟩
  have hzr:∀W,(zeroValue 189).run Tryz.prog W=.ok (.agg Z.toArray) W:=by rw[hZ];exact zero32_run
  have HZL:Hid (Z.length=32):=hid (by rw[hZ];rfl)
  clear hZ;have HA1:Hid (([]:List Int).length+s1.size≤4611686018427387904):=hid (by rw[List.length_nil];omega)
  have HA2:Hid ((padX kl 54).length+text.size≤4611686018427387904):=hid (by rw[HQ1.out];omega)
  have HA3:Hid ((padX kl 54++bys text).length≤1000000000000):=hid (by rw[List.length_append,HQ1.out,bys_length];omega)
  have HZS:Hid (IsStream initS [] (List.replicate 64 0)):=hid zero_stream
  go_upto_region 6 with (first
   | (go_at_call 136;(with_reducible refine (begin_any _).mono ?_);rintro e w1 ⟨rfl,hB1⟩;have hE1:=hid ((Ext.refl wb).next hB1);have hz1:=hE1.out.size;clear hB1)
   | (go_at_call 162;(with_reducible refine (mac1_any kk w.heap.size 54 w1 (HBB.out.ext hE1.out).one (HBB.out.ext hE1.out).lt hk64).mono ?_);rintro e w2 ⟨rfl,hB2⟩;rw[HBK.out,←HS1.out];have hE2:=hid (hE1.out.next hB2);clear hB2)
   | (go_at_call 137;(with_reducible refine (add_any initS [] (List.replicate 64 0) s1 w2 HZS.out HA1.out (HKB.out.below hE2.out)).mono ?_);rintro e w3 ⟨⟨cs,blk,rfl,hI⟩,hB3⟩;rw[List.nil_append,HB1.out] at hI;have HI:=hid hI;have hE3:=hid (hE2.out.next hB3);clear hB3 hI)
   | (go_at_call 137;(with_reducible refine (add_any cs (padX kl 54) blk text w3 HI.out HA2.out (HKB.out.below hE3.out)).mono ?_);rintro e w4 ⟨⟨cs4,blk4,rfl,hI⟩,hB3⟩;have HI4:=hid hI;have hE4:=hid (hE3.out.next hB3);clear hB3 hI)
   | (go_at_call 138;(with_reducible refine (ssum_any cs4 _ blk4 w4 HI4.out HA3.out (HKB.out.below hE4.out)).mono ?_);rintro e w5 ⟨rfl,hB3⟩;rw[HMI.out,←HU.out];have hE5:=hid (hE4.out.next hB3);clear hB3)
   | ((refine wpList_store_fresh rfl 189 (.tmp 7) (.tmp 24) rfl _ w5.heap.size rfl Z U 189 (by rfl) (by rfl) rfl (info_32u8.trans (congrArg some HUL.out.symm)) (HZL.out.trans HUL.out.symm) HU1.out ?_);intro w6 hw6 hE6 hz6;have HE6:=hid (hE5.out.next hE6);have HW6:=hid hw6;clear hw6 hE6))
  clear hk64;have HK6:=hid (HKB.out.below HE6.out);have HB6:=hid (HBB.out.ext HE6.out);obtain⟨p7,hp7⟩:∃p,p=w5.heap.size:=⟨_,rfl⟩
  rw[←hp7] at HW6⊢;clear hp7;have HEW:Hid (Ext w w6):=hid (HE.out.next HE6.out)
  have HCV:Hid (∀W,Ext w6 W→(convert 23 9 (.slice (some ⟨p7,0,none⟩) 32 32)).run Tryz.prog W=.ok (.string s3) W):=hid (fun W h=>by
   rw[HS3.out];exact run_toStr (P:=Tryz.prog) Tryz.underlying23 Tryz.underlying5 Tryz.underlying9 (l:=MI) (by rw[←HU.out];exact (HW6.out.ext h).rd HUL.out) 32 (fun h=>by omega))
  have HA4:Hid (([]:List Int).length+s2.size≤4611686018427387904):=hid (by rw[List.length_nil];omega)
  have HA5:Hid ((padX kl 92).length+s3.size≤4611686018427387904):=hid (by rw[HQ2.out];omega)
  have HA6:Hid ((padX kl 92++bys s3).length≤1000000000000):=hid (by rw[List.length_append,HQ2.out,bys_length];omega)
  have hk64:=HKL.out;have hvl:=HVL.out;have HE6d:Hid (Ext w6 w6.drew):=hid (Ext.refl w6).drew;have hcv0:=HCV.out _ HE6d.out;have hcv0':=fun o=>HCV.out _ (((Ext.refl w6).alloc o).drew)
  have HFR:Hid (∀W:World,Blk (W.alloc (.cells Z.toArray 189)) W.heap.size 189 Z):=hid (fun W=>Blk.fresh W _ Z)
  go_region_with (first
   | (go_at_call 136;(with_reducible refine (begin_any _).mono ?_);rintro e w7 ⟨rfl,hB7⟩;have hE7:Hid (Ext w6 w7):=hid (by first|exact HE6d.out.next hB7|exact (HE6d.out.alloc _).next hB7);(first|(have hz8:Hid (Blk w7 w6.heap.size 189 Z):=hid ((HFR.out w6.drew).below hB7 (HFR.out w6.drew).lt))|skip);have hcv:=HCV.out _ hE7.out;have hcv':=fun o=>HCV.out _ (hE7.out.alloc o);clear hB7)
   | (go_at_call 162;(with_reducible refine (mac1_any kk w.heap.size 92 _ (by first|exact (HB6.out.ext hE7.out).one|exact (HB6.out.ext (hE7.out.alloc _)).one) (by first|exact (HB6.out.ext hE7.out).lt|exact (HB6.out.ext (hE7.out.alloc _)).lt) hk64).mono ?_);rintro e w8 ⟨rfl,hB8⟩;rw[HBK.out,←HS2.out];have hE8:Hid (Ext w6 w8):=hid (by first|exact hE7.out.next hB8|exact (hE7.out.alloc _).next hB8);(first|(have hz8:=hid (hz8.out.below hB8 hz8.out.lt))|(have hz8:=hid ((HFR.out w7).below hB8 (HFR.out w7).lt))|skip);have hcv:=HCV.out _ hE8.out;have hcv':=fun o=>HCV.out _ (hE8.out.alloc o);clear hB8)
   | (go_at_call 137;(with_reducible refine (add_any initS [] (List.replicate 64 0) s2 _ HZS.out HA4.out (by first|exact HK6.out.below hE8.out|exact HK6.out.below (hE8.out.alloc _))).mono ?_);rintro e w9 ⟨⟨cs9,blk9,rfl,hI⟩,hB9⟩;rw[List.nil_append,HB2.out] at hI;have HI9:=hid hI;have hE9:Hid (Ext w6 w9):=hid (by first|exact hE8.out.next hB9|exact (hE8.out.alloc _).next hB9);(first|(have hz8:=hid (hz8.out.below hB9 hz8.out.lt))|(have hz8:=hid ((HFR.out w8).below hB9 (HFR.out w8).lt))|skip);have hcv:=HCV.out _ hE9.out;have hcv':=fun o=>HCV.out _ (hE9.out.alloc o);clear hB9 hI)
   | (go_at_call 137;(with_reducible refine (add_any cs9 (padX kl 92) blk9 s3 _ HI9.out HA5.out (by first|exact HK6.out.below hE9.out|exact HK6.out.below (hE9.out.alloc _))).mono ?_);rintro e w10 ⟨⟨cs10,blk10,rfl,hI⟩,hB10⟩;have HI10:=hid hI;have hE10:Hid (Ext w6 w10):=hid (by first|exact hE9.out.next hB10|exact (hE9.out.alloc _).next hB10);(first|(have hz8:=hid (hz8.out.below hB10 hz8.out.lt))|(have hz8:=hid ((HFR.out w9).below hB10 (HFR.out w9).lt))|skip);clear hB10 hI)
   | (go_at_call 138;(with_reducible refine (ssum_any cs10 _ blk10 _ HI10.out HA6.out (by first|exact HK6.out.below hE10.out|exact HK6.out.below (hE10.out.alloc _))).mono ?_);rintro e w11 ⟨rfl,hB11⟩;rw[HML.out,←HV.out];have hE11:Hid (Ext w6 w11):=hid (by first|exact hE10.out.next hB11|exact (hE10.out.alloc _).next hB11);(first|(have hz8:=hid (hz8.out.below hB11 hz8.out.lt))|(have hz8:=hid ((HFR.out w10).below hB11 (HFR.out w10).lt))|(have hz8:=hid (HFR.out w11)));have hst:=run_store_blk (P:=Tryz.prog) hz8.out (HZL.out.trans HVL.out.symm) HV1.out;clear hB11))
  all_goals
   clear hst hcv0 hcv0';have HB12:=hid (hz8.out.setRow V);have hcv2:=run_toStr (P:=Tryz.prog) Tryz.underlying23 Tryz.underlying5 Tryz.underlying9 (l:=ML) (by rw[←HV.out];exact HB12.out.rd HVL.out) 32 (fun h=>by omega)
   rw[←HS4.out] at hcv2;go_wp2_with fail
   go_ret
   refine⟨by rw[HS4.out];rfl,?_⟩
   first
    | exact HEW.out.next (hE11.out.setRow (Nat.le_refl _) _)
    | exact HEW.out.next (hE11.out.setRow hE10.out.size _)
    | exact HEW.out.next (hE11.out.setRow hE9.out.size _)
    | exact HEW.out.next (hE11.out.setRow hE8.out.size _)
    | exact HEW.out.next (hE11.out.setRow hE7.out.size _)
    | exact HEW.out.next ((hE11.out.alloc _).setRow hE11.out.size _)
end
section
theorem sg_nil {w:World}{B:Nat}(A:Option Addr)(n:Nat){xs:List Value}(_:Rd w B A n xs):n=0→A=none∨∃a,A=some a:=fun _=>by cases A<;>simp
theorem sg_udrew {w w':World}(h:Ext w.drew w'):Ext w w':=(Ext.refl w).drew.next h
def ofD (tag:Int)(l:List ByteArray):List Int:=(sha (inputB tag l)).take 16
theorem ofD_len (tag:Int)(l:List ByteArray):(ofD tag l).length=16:=by simp [ofD,sha_length]
theorem ofD_byt (tag:Int)(l:List ByteArray):Byt (ofD tag l):=(sha_byt _).take 16
structure Dig (d:List Int):Prop where
 l:d.length=16
 b:Byt d
theorem ofD_dig (tag:Int)(l:List ByteArray):Dig (ofD tag l):=⟨ofD_len _ _,ofD_byt _ _⟩
def intsS (l:List Int):ByteArray:=strOf (encL encInt l)
def nodeD (a b:List Int):List Int:=ofD 2 [strOf a,strOf b]
def advD (i c:Int)(f:Nat):Nat→List Int→List Int
 | 0,v=>v
 | n+1,v=>ofD 11 [intsS [i,c,((f+n:Nat):Int)],strOf (advD i c f n v)]
theorem advD_dig {i c:Int}{f:Nat}{v:List Int}(h:Dig v):∀n,Dig (advD i c f n v)
 | 0=>h
 | n+1=>ofD_dig _ _
theorem u8s_len (d:List Int):(u8s d).length=d.length:=by simp [u8s]
theorem dig_size {d:List Int}(h:Dig d):(strOf d).size=16:=by rw[strOf_size];exact h.l
theorem sg_encB_le (s:ByteArray)(h:s.size≤1000000000):(encB s).length≤s.size+9:=by
 unfold encB;have:=encInt_le9 (s.size:Int) (by omega) (by omega)
 rw[List.length_append,bys_length];omega
theorem encs_two (a b:ByteArray)(ha:a.size≤1000000000)(hb:b.size≤1000000000):(encs [a,b]).length≤100000000000:=by
 simp only[encs,List.append_nil,List.length_append]
 have h1:=sg_encB_le a ha;have h2:=sg_encB_le b hb;omega
theorem intsS_any (l:List Int)(A:Option Addr)(n c:Nat)(w:World)(hl:Rd w w.heap.size A n (l.map (Value.int .i64)))(hwf:∀x∈l,-9223372036854775808≤x∧x≤9223372036854775807)(hcat:(encL encInt l).length≤100000000000)(hn:n≤9223372036854775807) :
  Calls Tryz.prog 107 #[.slice A n c] w fun e w'=>e=.returned (.string (intsS l))∧Ext w w':=by
 have HC:=hid (ints_any l A n c w hl hwf hcat hn);go_enter Tryz.func107,Tryz.ntmps107
 go_wp2_with ((go_at_call 65;(with_reducible refine HC.out.mono ?_);rintro e w1 ⟨⟨A1,c1,rfl,ho⟩,hB⟩;have hcv:=run_toStr (P:=Tryz.prog) Tryz.underlying23 Tryz.underlying5 Tryz.underlying9 (Rd.of_own ho) c1 (sg_nil _ _ (Rd.of_own ho));have E1:=hid hB;clear hB ho))
 go_ret
 exact⟨rfl,E1.out⟩
theorem dg_info:(Tryz.prog.info? 26).map (·.size)=some 16:=by kernel_rfl
theorem node_any (a b:List Int)(w:World)(ha:Dig a)(hb:Dig b)(hK:KTab w) :
  Calls Tryz.prog 61 #[.agg (u8s a).toArray,.agg (u8s b).toArray] w fun e w'=>e=.returned (.agg (u8s (nodeD a b)).toArray)∧Ext w w':=by
 have HK:=hid hK;have HA:=hid ha;have HB:=hid hb;have HEN:=hid (encs_two (strOf a) (strOf b) (by rw[dig_size ha];decide) (by rw[dig_size hb];decide))
 clear hK ha hb;go_enter Tryz.func61,Tryz.ntmps61
 go_upto_region 1 with fail
 obtain⟨w3,hw3⟩:∃x,x=((w.alloc (.cells (u8s a).toArray 26)).alloc (.cells (u8s b).toArray 26)).alloc (.cells (u8s (List.replicate 16 0)).toArray 26):=⟨_,rfl⟩
 change Code.wp _ _ _ _ (((w.alloc (.cells (u8s a).toArray 26)).alloc (.cells (u8s b).toArray 26)).alloc (.cells (u8s (List.replicate 16 0)).toArray 26))
 rw[←hw3];have BA:Hid (Blk w3 w.heap.size 26 (u8s a)):=hid (by rw[hw3];exact ((Blk.fresh' _ _ _ _ _ rfl rfl).alloc _).alloc _)
 have BB:Hid (Blk w3 (w.heap.size+1) 26 (u8s b)):=hid (by rw[hw3];exact (Blk.fresh' _ _ _ _ _ rfl (by simp)).alloc _)
 have BZ:Hid (Blk w3 (w.heap.size+2) 26 (u8s (List.replicate 16 0))):=hid (by rw[hw3];exact Blk.fresh' _ _ _ _ _ rfl (by simp))
 have E3:Hid (Ext w w3):=hid (by rw[hw3];exact (((Ext.refl w).alloc _).alloc _).alloc _)
 clear hw3
 refine wp_region_flowG 6 ?FW1 (fun us=>?_) (by kernel_rfl) (by kernel_rfl) (fun a b=>Ext a b) Ext.refl (fun h1 h2=>h1.next h2) (fun i v W=>match i with
  | 0=>v=.slice (some ⟨w.heap.size,0,none⟩) 16 16
  | 1=>v=.string (strOf a)
  | 2=>v=.slice (some ⟨w.heap.size+1,0,none⟩) 16 16
  | 3=>v=.string (strOf b)
  | 4=>∃g,v=.slice (some ⟨g,0,none⟩) 2 2∧Rd W W.heap.size (some ⟨g,0,none⟩) 2 (strs [strOf a,strOf b])
  | 5=>v=.agg (u8s (nodeD a b)).toArray
  | _=>True) ?_ ?_
 case refine_1 =>
  simp only[List.take_succ_cons,List.take_zero,flowAct,Nat.zero_add,Nat.reduceAdd,Act.put,List.setIfInBounds_toArray,List.set_cons_succ,List.set_cons_zero]
  rfl
 ·simp only[List.take_succ_cons,List.take_zero,flowStepsG]
  refine⟨?_,?_,?_,?_,?_,?_,trivial⟩
  ·intro us W K HE hd HK
   dsimp only at HK⊢;clear hd;go_wp2_with fail
   exact K_at (Kz HK) (by kernel_rfl)
  ·intro us W K HE hd HK
   have d0:=hd 0 (by kernel_rfl)
   have hcv:=run_toStr (P:=Tryz.prog) Tryz.underlying23 Tryz.underlying5 Tryz.underlying9 ((BA.out.ext (sg_udrew HE.out)).rd ((u8s_len _).trans HA.out.l)) 16 (fun h=>by cases h)
   dsimp only at HK⊢;rw[d0] at HK⊢;clear hd d0;go_wp2_with fail
   exact K_at (Kz HK) (by kernel_rfl)
  ·intro us W K HE hd HK
   dsimp only at HK⊢;clear hd;go_wp2_with fail
   exact K_at (Kz HK) (by kernel_rfl)
  ·intro us W K HE hd HK
   have d2:=hd 2 (by kernel_rfl)
   have hcv:=run_toStr (P:=Tryz.prog) Tryz.underlying23 Tryz.underlying5 Tryz.underlying9 ((BB.out.ext (sg_udrew HE.out)).rd ((u8s_len _).trans HB.out.l)) 16 (fun h=>by cases h)
   dsimp only at HK⊢;rw[d2] at HK⊢;clear hd d2;go_wp2_with fail
   exact K_at (Kz HK) (by kernel_rfl)
  ·intro us W K HE hd HK
   have d1:=hd 1 (by kernel_rfl)
   have d3:=hd 3 (by kernel_rfl)
   dsimp only at HK⊢;rw[d1,d3] at HK⊢;clear hd d1 d3;go_wp2_with fail
   exact K_at (HK.out (.slice (some ⟨W.heap.size,0,none⟩) 2 2) (W.alloc (.cells #[.string (strOf a),.string (strOf b)] 9)) (fun W2 h2=>⟨_,rfl,((Blk.fresh W 9 [.string (strOf a),.string (strOf b)]).rd rfl).ext' h2⟩) ((Ext.refl W).alloc _)) (by kernel_rfl)
  ·intro us W K hE hd hK
   obtain⟨g4,d4,r4⟩:=hd 4 (by kernel_rfl)
   have R4:=hid r4;have KW:=hid (HK.out.below (E3.out.next (sg_udrew hE.out)));dsimp only at hK⊢;rw[d4] at hK⊢;have HK:=hK;have HE:=hE;clear hK hd hE d4 r4;go_wp2_with ((go_at_call 106;(with_reducible refine (of_any 2 [strOf a,strOf b] (some ⟨g4,0,none⟩) 2 2 W R4.out (by decide) HEN.out KW.out).mono ?_);rintro e w6 ⟨rfl,hB6⟩))
   exact K_at (HK.out (.agg (u8s (nodeD a b)).toArray) w6 (fun _ _=>rfl) hB6) (by kernel_rfl)
 ·intro us W hE hd
  try dsimp only
  have d5:=hd 5 (by decide)
  simp only[List.drop_succ_cons,List.drop_zero]
  rw[d5];have EW:=hid (sg_udrew hE);have BZW:=hid (BZ.out.ext EW.out);clear hd hE d5;go_wp2_with (refine wpList_store_blk rfl 26 (.tmp 4) (.tmp 10) (by rfl) (w.heap.size+2) (u8s (nodeD a b)) rfl rfl BZW.out (dg_info.trans (congrArg some (by rw[u8s_len];rfl))) (by rw[u8s_len,u8s_len,show (nodeD a b).length=16 from ofD_len _ _];rfl) (u8s_one _) ?_;intro w9 hw9 hb9)
  exact bodyPost_ret (results_blk Tryz.results61 _ _ (w.heap.size+2) 26 (u8s (nodeD a b)) _ rfl hb9 Tryz.underlying26 rfl (dg_info.trans (congrArg some (by rw[u8s_len];exact (ofD_len _ _).symm)))) rfl ⟨rfl,by rw[hw9.out];exact (E3.out.next EW.out).setRow (by omega) _⟩
def I64 (x:Int):Prop:=-9223372036854775808≤x∧x≤9223372036854775807
def chainB:List Int:=[99,104,97,105,110]
def startD (seed:ByteArray)(i c:Int):List Int:=(macL seed (strOf (chainB++encL encInt [i,c]))).take 16
theorem startD_dig (seed:ByteArray)(i c:Int):Dig (startD seed i c):=⟨by simp [startD,macL,sha_length],(sha_byt _).take 16⟩
theorem ints_le (i c:Int)(hi:I64 i)(hc:I64 c):(encL encInt [i,c]).length≤27:=by
 unfold encL;have h1:=encInt_le9 i hi.1 hi.2;have h2:=encInt_le9 c hc.1 hc.2;have h3:=encInt_le9 2 (by decide) (by decide)
 simp only[List.length_append,List.flatMap_cons,List.flatMap_nil,List.length_cons,List.length_nil,List.append_nil]
 have e:(((0+1+1:Nat)):Int)=2:=rfl;rw[e];omega
attribute [local go_sem ↓] wp_at_zero wp_at_succ
theorem start_any (seed:ByteArray)(i c:Int)(w:World)(hs:seed.size≤1000000)(hi:I64 i)(hc:I64 c)(hK:KTab w) :
  Calls Tryz.prog 93 #[.string seed,.int .i64 i,.int .i64 c] w fun e w'=>e=.returned (.agg (u8s (startD seed i c)).toArray)∧Ext w w':=by
 have HK:=hid hK;have HI:=hid hi;have HC:=hid hc;have HLE:=hid (ints_le i c hi hc);clear hK hi hc;go_enter Tryz.func93,Tryz.ntmps93
 go_upto_region 1 with fail
 obtain⟨w3,hw3⟩:∃x,x=w.alloc (.cells (u8s (List.replicate 16 0)).toArray 26):=⟨_,rfl⟩
 change Code.wp _ _ _ _ (w.alloc (.cells (u8s (List.replicate 16 0)).toArray 26))
 rw[←hw3];have BZ:Hid (Blk w3 w.heap.size 26 (u8s (List.replicate 16 0))):=hid (by rw[hw3];exact Blk.fresh' _ _ _ _ _ rfl rfl)
 have E3:Hid (Ext w w3):=hid (by rw[hw3];exact (Ext.refl w).alloc _)
 clear hw3;obtain⟨w4,hw4⟩:∃x,x=w3.alloc (.cells #[.int .i64 i,.int .i64 c] 3):=⟨_,rfl⟩
 have R4:Hid (Rd w4 w4.heap.size (some ⟨w3.heap.size,0,none⟩) 2 ([i,c].map (Value.int .i64))):=hid (by rw[hw4];exact (Blk.fresh w3 3 [.int .i64 i,.int .i64 c]).rd rfl)
 have E4:Hid (Ext w3 w4):=hid (by rw[hw4];exact (Ext.refl w3).alloc _)
 have HIN:=hid (intsS_any [i,c] (some ⟨w3.heap.size,0,none⟩) 2 2 w4 R4.out (fun x hx=>by simp only[List.mem_cons,List.not_mem_nil,or_false] at hx;rcases hx with rfl|rfl<;>first|exact HI.out|exact HC.out) (by have:=HLE.out;omega) (by decide))
 have hsz:(intsS [i,c]).size≤27:=by unfold intsS;rw[strOf_size];exact HLE.out
 obtain⟨M,hM⟩:∃M,M=macL seed (strOf (chainB++encL encInt [i,c])):=⟨_,rfl⟩
 have HML:Hid (M.length=32):=hid (by rw[hM];exact sha_length _)
 have HMS:Hid (M.take 16=startD seed i c):=hid (by rw[hM];rfl)
 have HMC:Hid (∀W,KTab W→Calls Tryz.prog 131 #[.string seed,.string ({ data:=#[99,104,97,105,110] }++intsS [i,c])] W fun e w'=>e=.returned (.string (strOf M))∧Ext W w'):=hid (fun W hW=>by
  have e1:({ data:=#[99,104,97,105,110] }:ByteArray)++intsS [i,c]=strOf (chainB++encL encInt [i,c]):=by
   apply ByteArray.ext
   simp [strOf,intsS,chainB]
  rw[e1,hM];exact mac_any seed _ W (by omega) (by rw[strOf_size,List.length_append];have:=HLE.out;simp only[chainB,List.length_cons,List.length_nil];omega) hW)
 have HK5:Hid (∀W,Ext w W→KTab W):=hid (fun W h=>HK.out.below h)
 obtain⟨T,hT⟩:∃T,T=startD seed i c:=⟨_,rfl⟩
 have HT:Hid (T=startD seed i c):=hid hT;have HTL:Hid (T.length=16):=hid (by rw[hT];exact (startD_dig _ _ _).l)
 have hms:(strOf M).size=32:=by rw[strOf_size];exact HML.out
 have HEX:Hid ((strOf M).extract 0 16=strOf T):=hid (by
  rw[←strOf_bys ((strOf M).extract 0 16),bys_extract,bys_strOf M (by rw[hM];exact sha_byt _),hT,←HMS.out]
  rfl)
 have hts:(strOf T).size=16:=by rw[strOf_size];exact HTL.out
 have HCB:Hid (∀W,∃cb wb,(convert 9 23 (.string ((strOf M).extract 0 16))).run Tryz.prog W=.ok (.slice (some ⟨W.heap.size,0,none⟩) 16 cb) wb∧wb.rangeAt W.heap.size 0 (u8s T)∧Ext W wb):=hid (fun W=>by
  obtain⟨cb,wb,hcb,hRb,hBb⟩:=run_toBytes (P:=Tryz.prog) W 9 23 5 (strOf T) Tryz.underlying9 Tryz.underlying23 Tryz.underlying5;rw[hts] at hcb hRb;refine⟨cb,wb,by rw[HEX.out];exact hcb,fun j v hv=>?_,hBb⟩
  obtain⟨b,oo,hA,_,hc⟩:=hRb.2 (by decide)
  injection hA with hA
  injection hA with e1 e2
  subst e1;subst e2;exact hc j v (by rw[bys_strOf T (by rw[hT];exact (startD_dig _ _ _).b)];exact hv))
 have ha:=fun (W:World) (a:Option Addr) (cap:Nat)=>run_arrayAt (P:=Tryz.prog) W 26 5 16 a 16 cap Tryz.underlying26 (Nat.le_refl _)
 clear hM hT;subst hw4
 go_wp2_with (first
  | (go_at_call 107;(with_reducible refine HIN.out.mono ?_);rintro e w5 ⟨rfl,hE5⟩;have E5:Hid (Ext w3 w5):=hid (E4.out.next hE5);clear hE5)
  | (go_at_call 131;(with_reducible refine (HMC.out w5 (HK5.out w5 (E3.out.next E5.out))).mono ?_);rintro e w6 ⟨rfl,hE6⟩;have E6:Hid (Ext w3 w6):=hid (E5.out.next hE6);clear hE6;obtain⟨cb,wb,hcb,hrg,hBb⟩:=HCB.out w6;have HRG:=hid hrg;have EB:Hid (Ext w wb):=hid (E3.out.next (E6.out.next hBb));have BZW:Hid (Blk wb w.heap.size 26 (u8s (List.replicate 16 0))):=hid (BZ.out.ext (E6.out.next hBb));clear hrg hBb)
  | (refine wpList_load_mid rfl 26 (.tmp 16) rfl w6.heap.size 0 rfl (u8s T) _ HRG.out Tryz.underlying26 rfl (dg_info.trans (congrArg some (by rw[u8s_len,HTL.out]))) ?_)
  | (refine wpList_store_blk rfl 26 (.tmp 6) (.tmp 17) (by rfl) w.heap.size (u8s T) rfl rfl BZW.out (dg_info.trans (congrArg some (by rw[u8s_len,HTL.out]))) (by rw[u8s_len,u8s_len,HTL.out];rfl) (u8s_one _) ?_;intro w9 hw9 hb9))
 exact bodyPost_ret (results_blk Tryz.results93 _ _ w.heap.size 26 (u8s T) _ rfl hb9 Tryz.underlying26 rfl (dg_info.trans (congrArg some (by rw[u8s_len,HTL.out])))) rfl ⟨by rw[HT.out],by rw[hw9.out];exact EB.out.setRow (Nat.le_refl _) _⟩
theorem encs_ints (l:List Int)(hl:(encL encInt l).length≤1000000)(d:List Int)(hd:Dig d):(encs [intsS l,strOf d]).length≤100000000000 :=
 encs_two _ _ (by unfold intsS;rw[strOf_size];omega) (by rw[dig_size hd];decide)
theorem ints3_le (i c t:Int)(hi:I64 i)(hc:I64 c)(ht:I64 t):(encL encInt [i,c,t]).length≤36:=by
 unfold encL;have h1:=encInt_le9 i hi.1 hi.2;have h2:=encInt_le9 c hc.1 hc.2;have h4:=encInt_le9 t ht.1 ht.2;have h3:=encInt_le9 3 (by decide) (by decide)
 simp only[List.length_append,List.flatMap_cons,List.flatMap_nil,List.length_cons,List.length_nil,List.append_nil]
 have e:(((0+1+1+1:Nat)):Int)=3:=rfl;rw[e];omega
theorem advD_succ (i c:Int)(f k:Nat)(v:List Int)(h:f≤k):advD i c f (k+1-f) v=ofD 11 [intsS [i,c,(k:Int)],strOf (advD i c f (k-f) v)]:=by
 obtain⟨n,hn⟩:∃n,n=k-f:=⟨_,rfl⟩
 rw[show k+1-f=n+1 by omega,←hn]
 show ofD 11 [intsS [i,c,((f+n:Nat):Int)],strOf (advD i c f n v)]=_
 rw[show f+n=k by omega]
theorem advance_any (ix ch:Int)(f u:Nat)(vv:List Int)(w:World)(hi:I64 ix)(hc:I64 ch)(hf:f≤1000000)(hu:u≤1000000)(hv:Dig vv)(hK:KTab w) :
  Calls Tryz.prog 60 #[.int .i64 ix,.int .i64 ch,.int .i64 (f:Int),.int .i64 (u:Int),.agg (u8s vv).toArray] w fun e w'=>e=.returned (.agg (u8s (advD ix ch f (u-f) vv)).toArray)∧Ext w w':=by
 have HK:=hid hK;have HI:=hid hi;have HC:=hid hc;have HV:=hid hv;have HDG:Hid (∀n,Dig (advD ix ch f n vv)):=hid (advD_dig hv)
 clear hK hi hc hv;go_enter Tryz.func60,Tryz.ntmps60
 go_upto_region 1 with fail
 obtain⟨w3,hw3⟩:∃x,x=(w.alloc (.cells (u8s vv).toArray 26)).alloc (.cells (u8s (List.replicate 16 0)).toArray 26):=⟨_,rfl⟩
 change Code.wp _ _ _ _ ((w.alloc (.cells (u8s vv).toArray 26)).alloc (.cells (u8s (List.replicate 16 0)).toArray 26))
 rw[←hw3];have BV:Hid (Blk w3 w.heap.size 26 (u8s vv)):=hid (by rw[hw3];exact (Blk.fresh' _ _ _ _ _ rfl rfl).alloc _)
 have BZ:Hid (Blk w3 (w.heap.size+1) 26 (u8s (List.replicate 16 0))):=hid (by rw[hw3];exact Blk.fresh' _ _ _ _ _ rfl (by simp))
 have E3:Hid (Ext w w3):=hid (by rw[hw3];exact ((Ext.refl w).alloc _).alloc _)
 clear hw3;go_wp2_with fail
 go_loopw [11] (fun x wr=>∃k:Nat,f≤k∧(k≤u∨k=f)∧x=.int .i64 (k:Int)∧Blk wr w.heap.size 26 (u8s (advD ix ch f (k-f) vv))∧Blk wr (w.heap.size+1) 26 (u8s (List.replicate 16 0))∧Ext w wr) (fun x _=>u-(intOf x).toNat)
 case atStart=>exact⟨f,Nat.le_refl _,Or.inr rfl,rfl,by rw[Nat.sub_self];exact BV.out,BZ.out,E3.out⟩
 case round =>
  clear BV BZ E3;obtain⟨k,hk1,hk2,rfl,hbv,hbz,hE⟩:=hrel;have BV:=hid hbv;have BZ:=hid hbz;have E3:=hid hE;clear hbv hbz hE;obtain⟨wo,rfl⟩:∃x:World,x=wr:=⟨_,rfl⟩
  by_cases hlt:k<u
  ·have HLE:=hid (ints3_le ix ch (k:Int) HI.out HC.out ⟨by omega,by omega⟩)
   obtain⟨D1,hD1⟩:∃x,x=advD ix ch f (k-f) vv:=⟨_,rfl⟩
   have HD1:Hid (Dig D1):=hid (by rw[hD1];exact HDG.out _)
   have HSC:Hid (ofD 11 [intsS [ix,ch,(k:Int)],strOf D1]=advD ix ch f (k+1-f) vv):=hid (by rw[advD_succ _ _ _ _ _ hk1,hD1])
   rw[←hD1] at BV;clear hD1;obtain⟨S3,hS3⟩:∃x,x=intsS [ix,ch,(k:Int)]:=⟨_,rfl⟩
   have HS3:=hid hS3;have HEN:Hid ((encs [S3,strOf D1]).length≤100000000000):=hid (by rw[hS3];exact encs_ints _ (by have:=HLE.out;omega) _ HD1.out)
   obtain⟨D2,hD2⟩:∃x,x=ofD 11 [S3,strOf D1]:=⟨_,rfl⟩
   have HD2:=hid hD2;have HD2L:Hid (D2.length=16):=hid (by rw[hD2];exact ofD_len _ _)
   have HWF:Hid (∀x∈[ix,ch,(k:Int)],-9223372036854775808≤x∧x≤9223372036854775807):=hid (fun x hx=>by
    simp only[List.mem_cons,List.not_mem_nil,or_false] at hx
    rcases hx with rfl|rfl|rfl
    ·exact HI.out
    ·exact HC.out
    ·exact⟨by omega,by omega⟩)
   have HCAT:Hid ((encL encInt [ix,ch,(k:Int)]).length≤100000000000):=hid (by have:=HLE.out;omega)
   clear hD2 hS3;go_upto_region 4 with fail
   refine wp_region_flowG 9 ?FW4 (fun us=>?_) (by kernel_rfl) (by kernel_rfl) (fun a b=>Ext a b) Ext.refl (fun h1 h2=>h1.next h2) (fun i v W=>match i with
    | 0=>v=.int .i64 ix
    | 1=>v=.int .i64 ch
    | 2=>v=.int .i64 (k:Int)
    | 3=>∃g,v=.slice (some ⟨g,0,none⟩) 3 3∧Rd W W.heap.size (some ⟨g,0,none⟩) 3 ([ix,ch,(k:Int)].map (Value.int .i64))
    | 4=>v=.string S3
    | 5=>v=.slice (some ⟨w.heap.size,0,none⟩) 16 16
    | 6=>v=.string (strOf D1)
    | 7=>∃g,v=.slice (some ⟨g,0,none⟩) 2 2∧Rd W W.heap.size (some ⟨g,0,none⟩) 2 (strs [S3,strOf D1])
    | 8=>v=.agg (u8s D2).toArray
    | _=>True) ?_ ?_
   case refine_1 =>
    simp only[List.take_succ_cons,List.take_zero,flowAct,Nat.zero_add,Nat.reduceAdd,Act.put,List.setIfInBounds_toArray,List.set_cons_succ,List.set_cons_zero]
    rfl
   ·simp only[List.take_succ_cons,List.take_zero,flowStepsG]
    refine⟨?_,?_,?_,?_,?_,?_,?_,?_,?_,trivial⟩
    ·intro us W K HE hd HK
     dsimp only at HK⊢;clear hd;go_wp2_with fail
     exact K_at (Kz HK) (by kernel_rfl)
    ·intro us W K HE hd HK
     dsimp only at HK⊢;clear hd;go_wp2_with fail
     exact K_at (Kz HK) (by kernel_rfl)
    ·intro us W K HE hd HK
     dsimp only at HK⊢;clear hd;go_wp2_with fail
     exact K_at (Kz HK) (by kernel_rfl)
    ·intro us W K HE hd HK
     have d0:=hd 0 (by kernel_rfl)
     have d1:=hd 1 (by kernel_rfl)
     have d2:=hd 2 (by kernel_rfl)
     dsimp only at HK⊢;rw[d0,d1,d2] at HK⊢;clear hd d0 d1 d2;go_wp2_with fail
     exact K_at (HK.out (.slice (some ⟨W.heap.size,0,none⟩) 3 3) (W.alloc (.cells #[.int .i64 ix,.int .i64 ch,.int .i64 (k:Int)] 3)) (fun W2 h2=>⟨_,rfl,((Blk.fresh W 3 [.int .i64 ix,.int .i64 ch,.int .i64 (k:Int)]).rd rfl).ext' h2⟩) ((Ext.refl W).alloc _)) (by kernel_rfl)
    ·intro us W K HE hd HK
     obtain⟨g3,d3,r3⟩:=hd 3 (by kernel_rfl)
     have R3:=hid r3;dsimp only at HK⊢;rw[d3] at HK⊢;clear hd d3 r3;go_wp2_with ((go_at_call 107;(with_reducible refine (intsS_any [ix,ch,(k:Int)] (some ⟨g3,0,none⟩) 3 3 W R3.out HWF.out HCAT.out (by decide)).mono ?_);rintro e w6 ⟨rfl,hB6⟩;rw[←HS3.out]))
     exact K_at (HK.out (.string S3) w6 (fun _ _=>rfl) hB6) (by kernel_rfl)
    ·intro us W K HE hd HK
     dsimp only at HK⊢;clear hd;go_wp2_with fail
     exact K_at (Kz HK) (by kernel_rfl)
    ·intro us W K HE hd HK
     have d5:=hd 5 (by kernel_rfl)
     have hcv:=run_toStr (P:=Tryz.prog) Tryz.underlying23 Tryz.underlying5 Tryz.underlying9 ((BV.out.ext (sg_udrew HE.out)).rd ((u8s_len _).trans HD1.out.l)) 16 (fun h=>by cases h)
     dsimp only at HK⊢;rw[d5] at HK⊢;clear hd d5;go_wp2_with fail
     exact K_at (Kz HK) (by kernel_rfl)
    ·intro us W K HE hd HK
     have d4:=hd 4 (by kernel_rfl)
     have d6:=hd 6 (by kernel_rfl)
     dsimp only at HK⊢;rw[d4,d6] at HK⊢;clear hd d4 d6;go_wp2_with fail
     exact K_at (HK.out (.slice (some ⟨W.heap.size,0,none⟩) 2 2) (W.alloc (.cells #[.string S3,.string (strOf D1)] 9)) (fun W2 h2=>⟨_,rfl,((Blk.fresh W 9 [.string S3,.string (strOf D1)]).rd rfl).ext' h2⟩) ((Ext.refl W).alloc _)) (by kernel_rfl)
    ·intro us W K hE hd hK
     obtain⟨g7,d7,r7⟩:=hd 7 (by kernel_rfl)
     have R7:=hid r7;have KW:=hid (HK.out.below (E3.out.next (sg_udrew hE.out)));dsimp only at hK⊢;rw[d7] at hK⊢;have HK:=hK;have HE:=hE;clear hK hd hE d7 r7;go_wp2_with ((go_at_call 106;(with_reducible refine (of_any 11 [S3,strOf D1] (some ⟨g7,0,none⟩) 2 2 W R7.out (by decide) HEN.out KW.out).mono ?_);rintro e w6 ⟨he,hB6⟩;(obtain rfl:e=.returned (.agg (u8s D2).toArray):=by rw[he,HD2.out];rfl)))
     exact K_at (HK.out (.agg (u8s D2).toArray) w6 (fun _ _=>rfl) hB6) (by kernel_rfl)
   ·intro us W hE hd
    try dsimp only
    have d8:=hd 8 (by decide)
    simp only[List.drop_succ_cons,List.drop_zero]
    rw[d8];have EW:=hid (sg_udrew hE);have BZW:=hid (BV.out.ext EW.out);have BZ2:=hid (BZ.out.ext EW.out);clear hd hE d8;go_wp2_with (refine wpList_store_blk rfl 26 (.tmp 9) (.tmp 26) (by rfl) w.heap.size (u8s D2) rfl rfl BZW.out (dg_info.trans (congrArg some (by rw[u8s_len,HD2L.out]))) (by rw[u8s_len,u8s_len,HD2L.out,HD1.out.l]) (u8s_one _) ?_;intro w9 hw9 hb9)
    go_roundw
    case rel=>exact⟨k+1,by omega,Or.inl (by omega),by go_num,by rw[←HSC.out,←HS3.out,←HD2.out];exact hb9,by rw[hw9.out];exact BZ2.out.setRow_far (by omega) _,by rw[hw9.out];exact (E3.out.next EW.out).setRow (Nat.le_refl _) _⟩
    case measure=>simp [intOf];omega
  ·have hku:k-f=u-f:=by omega
   have HKU:=hid hku;clear hku;have HDL:Hid ((advD ix ch f (k-f) vv).length=16):=hid (HDG.out _).l;have HRE:Hid (advD ix ch f (k-f) vv=advD ix ch f (u-f) vv):=hid (by rw[HKU.out])
   clear HKU;generalize advD ix ch f (k-f) vv=D1 at *
   go_wp2_with (first
    | (refine wpList_load_blk rfl 26 (.tmp 9) rfl w.heap.size rfl BV.out Tryz.underlying26 rfl (dg_info.trans (congrArg some (by rw[u8s_len,HDL.out]))) ?_)
    | (refine wpList_store_blk rfl 26 (.tmp 10) (.tmp 27) (by rfl) (w.heap.size+1) (u8s D1) rfl rfl BZ.out (dg_info.trans (congrArg some (by rw[u8s_len,HDL.out]))) (by rw[u8s_len,u8s_len,HDL.out];rfl) (u8s_one _) ?_;intro w9 hw9 hb9))
   exact bodyPost_ret (results_blk Tryz.results60 _ _ (w.heap.size+1) 26 (u8s D1) _ rfl hb9 Tryz.underlying26 rfl (dg_info.trans (congrArg some (by rw[u8s_len,HDL.out])))) rfl ⟨by rw[HRE.out],by rw[hw9.out];exact E3.out.setRow (Nat.le_succ _) _⟩
def digestD (p:List Int)(ix:Int)(m:ByteArray):List Int:=ofD 4 [strOf p,strOf (encInt ix),m]
theorem encs_three (a b c:ByteArray)(ha:a.size≤1000000000)(hb:b.size≤1000000000)(hc:c.size≤1000000000):(encs [a,b,c]).length≤100000000000:=by
 simp only[encs,List.append_nil,List.length_append]
 have h1:=sg_encB_le a ha;have h2:=sg_encB_le b hb;have h3:=sg_encB_le c hc;omega
theorem digest_any (p:List Int)(ix:Int)(ms:ByteArray)(w:World)(hp:Dig p)(hi:I64 ix)(hm:ms.size≤1000000000)(hK:KTab w) :
  Calls Tryz.prog 57 #[.agg (u8s p).toArray,.int .i64 ix,.string ms] w fun e w'=>e=.returned (.agg (u8s (digestD p ix ms)).toArray)∧Ext w w':=by
 have HK:=hid hK;have HP:=hid hp;have HI:=hid hi;have hle:=encInt_le9 ix hi.1 hi.2;have HEN:=hid (encs_three (strOf p) (strOf (encInt ix)) ms (by rw[dig_size hp];decide) (by rw[strOf_size];omega) hm)
 obtain⟨S3,hS3⟩:∃x,x=strOf (encInt ix):=⟨_,rfl⟩
 have HS3:=hid hS3;rw[←hS3] at HEN;obtain⟨D2,hD2⟩:∃x,x=digestD p ix ms:=⟨_,rfl⟩
 have HD2:Hid (D2=ofD 4 [strOf p,S3,ms]):=hid (by rw[hD2,hS3];rfl)
 have HD2L:Hid (D2.length=16):=hid (by rw[hD2];exact ofD_len _ _)
 have HINT:=hid (fun W=>wintL_any ix W hi.1 hi.2)
 rw[←hD2];clear hK hp hi hle hS3 hD2;go_enter Tryz.func57,Tryz.ntmps57
 go_upto_region 1 with fail
 obtain⟨w3,hw3⟩:∃x,x=(w.alloc (.cells (u8s p).toArray 26)).alloc (.cells (u8s (List.replicate 16 0)).toArray 26):=⟨_,rfl⟩
 change Code.wp _ _ _ _ ((w.alloc (.cells (u8s p).toArray 26)).alloc (.cells (u8s (List.replicate 16 0)).toArray 26))
 rw[←hw3];have BV:Hid (Blk w3 w.heap.size 26 (u8s p)):=hid (by rw[hw3];exact (Blk.fresh' _ _ _ _ _ rfl rfl).alloc _)
 have BZ:Hid (Blk w3 (w.heap.size+1) 26 (u8s (List.replicate 16 0))):=hid (by rw[hw3];exact Blk.fresh' _ _ _ _ _ rfl (by simp))
 have E3:Hid (Ext w w3):=hid (by rw[hw3];exact ((Ext.refl w).alloc _).alloc _)
 clear hw3
 refine wp_region_flowG 8 ?FW1 (fun us=>?_) (by kernel_rfl) (by kernel_rfl) (fun a b=>Ext a b) Ext.refl (fun h1 h2=>h1.next h2) (fun i v W=>match i with
  | 0=>v=.slice (some ⟨w.heap.size,0,none⟩) 16 16
  | 1=>v=.string (strOf p)
  | 2=>v=.int .i64 ix
  | 3=>∃ga n c,v=.slice ga n c∧Rd W W.heap.size ga n (u8s (encInt ix))
  | 4=>v=.string S3
  | 5=>v=.string ms
  | 6=>∃g,v=.slice (some ⟨g,0,none⟩) 3 3∧Rd W W.heap.size (some ⟨g,0,none⟩) 3 (strs [strOf p,S3,ms])
  | 7=>v=.agg (u8s D2).toArray
  | _=>True) ?_ ?_
 case refine_1 =>
  simp only[List.take_succ_cons,List.take_zero,flowAct,Nat.zero_add,Nat.reduceAdd,Act.put,List.setIfInBounds_toArray,List.set_cons_succ,List.set_cons_zero]
  rfl
 ·simp only[List.take_succ_cons,List.take_zero,flowStepsG]
  refine⟨?_,?_,?_,?_,?_,?_,?_,?_,trivial⟩
  ·intro us W K HE hd HK
   dsimp only at HK⊢;clear hd;go_wp2_with fail
   exact K_at (Kz HK) (by kernel_rfl)
  ·intro us W K HE hd HK
   have d0:=hd 0 (by kernel_rfl)
   have hcv:=run_toStr (P:=Tryz.prog) Tryz.underlying23 Tryz.underlying5 Tryz.underlying9 ((BV.out.ext (sg_udrew HE.out)).rd ((u8s_len _).trans HP.out.l)) 16 (fun h=>by cases h)
   dsimp only at HK⊢;rw[d0] at HK⊢;clear hd d0;go_wp2_with fail
   exact K_at (Kz HK) (by kernel_rfl)
  ·intro us W K HE hd HK
   dsimp only at HK⊢;clear hd;go_wp2_with fail
   exact K_at (Kz HK) (by kernel_rfl)
  ·intro us W K HE hd HK
   have d2:=hd 2 (by kernel_rfl)
   dsimp only at HK⊢;rw[d2] at HK⊢;clear hd d2;go_wp2_with ((go_at_call 66;(with_reducible refine (HINT.out W).mono ?_);rintro e w6 ⟨⟨A6,c6,rfl,ho⟩,hB⟩;have hB6:=hid hB;have R6:=hid (Rd.of_own ho);clear hB ho))
   exact K_at (HK.out (.slice A6 _ c6) w6 (fun W2 h2=>⟨_,_,_,rfl,R6.out.ext' h2⟩) hB6.out) (by kernel_rfl)
  ·intro us W K HE hd HK
   obtain⟨A3,n3,c3,d3,r3⟩:=hd 3 (by kernel_rfl)
   have hcv:=run_toStr (P:=Tryz.prog) Tryz.underlying23 Tryz.underlying5 Tryz.underlying9 r3 c3 (sg_nil _ _ r3);rw[←HS3.out] at hcv;dsimp only at HK⊢;rw[d3] at HK⊢;clear hd d3 r3;go_wp2_with fail
   exact K_at (Kz HK) (by kernel_rfl)
  ·intro us W K HE hd HK
   dsimp only at HK⊢;clear hd;go_wp2_with fail
   exact K_at (Kz HK) (by kernel_rfl)
  ·intro us W K HE hd HK
   have d1:=hd 1 (by kernel_rfl)
   have d4:=hd 4 (by kernel_rfl)
   have d5:=hd 5 (by kernel_rfl)
   dsimp only at HK⊢;rw[d1,d4,d5] at HK⊢;clear hd d1 d4 d5;go_wp2_with fail
   exact K_at (HK.out (.slice (some ⟨W.heap.size,0,none⟩) 3 3) (W.alloc (.cells #[.string (strOf p),.string S3,.string ms] 9)) (fun W2 h2=>⟨_,rfl,((Blk.fresh W 9 [.string (strOf p),.string S3,.string ms]).rd rfl).ext' h2⟩) ((Ext.refl W).alloc _)) (by kernel_rfl)
  ·intro us W K hE hd hK
   obtain⟨g7,d6,r7⟩:=hd 6 (by kernel_rfl)
   have R7:=hid r7;have KW:=hid (HK.out.below (E3.out.next (sg_udrew hE.out)));dsimp only at hK⊢;rw[d6] at hK⊢;have HK:=hK;have HE:=hE;clear hK hd hE d6 r7;go_wp2_with ((go_at_call 106;(with_reducible refine (of_any 4 [strOf p,S3,ms] (some ⟨g7,0,none⟩) 3 3 W R7.out (by decide) HEN.out KW.out).mono ?_);rintro e w6 ⟨he,hB6⟩;(obtain rfl:e=.returned (.agg (u8s D2).toArray):=by rw[he,HD2.out];rfl)))
   exact K_at (HK.out (.agg (u8s D2).toArray) w6 (fun _ _=>rfl) hB6) (by kernel_rfl)
 ·intro us W hE hd
  try dsimp only
  have d7:=hd 7 (by decide)
  simp only[List.drop_succ_cons,List.drop_zero]
  rw[d7];have EW:=hid (sg_udrew hE);have BZ2:=hid (BZ.out.ext EW.out);clear hd hE d7;go_wp2_with (refine wpList_store_blk rfl 26 (.tmp 6) (.tmp 14) (by rfl) (w.heap.size+1) (u8s D2) rfl rfl BZ2.out (dg_info.trans (congrArg some (by rw[u8s_len,HD2L.out]))) (by rw[u8s_len,u8s_len,HD2L.out];rfl) (u8s_one _) ?_;intro w9 hw9 hb9)
  exact bodyPost_ret (results_blk Tryz.results57 _ _ (w.heap.size+1) 26 (u8s D2) _ rfl hb9 Tryz.underlying26 rfl (dg_info.trans (congrArg some (by rw[u8s_len,HD2L.out])))) rfl ⟨rfl,by rw[hw9.out];exact (E3.out.next EW.out).setRow (Nat.le_succ _) _⟩
end
end Go.Proofs.YtjeecfjeooehhaaGreatDoor