/- The chains that Verify goes on from a signature's values (the closure that leaf is given), and leaf over them. Conditions: a signature of the right length. -/
import Derived.Test.YtjeecfjeooehhaaGreatDoorM25
import Derived.Deep.DeepCutAuto
import Derived.Deep.CutBlock
set_option linter.unusedSimpArgs false
set_option linter.unusedVariables false
set_option maxHeartbeats 16000000
set_option maxRecDepth 100000
namespace Go.Proofs.YtjeecfjeooehhaaGreatDoor
open Go.RowKit
open Lib (hid)
section
attribute [local go_sem ↓] wp_at_zero wp_at_succ
def endD (ix:Int)(X:List Int)(f:Nat→Nat)(c:Nat):List Int:=advD ix (c:Int) (f c) (3-f c) (valD X c)
theorem endD_dig {ix:Int}{X:List Int}{f:Nat→Nat}{c:Nat}(h:Dig (valD X c)):Dig (endD ix X f c):=advD_dig h _
structure Caps (w:World) (ix:Int) (X:List Int) (f:Nat→Nat) (ib fb vb rb:Nat):Prop where
 cIx:w.cell? ⟨ib,0,none⟩=some (.int .i64 ix)
 cDg:∃gd cd,w.cell? ⟨fb,0,none⟩=some (.slice (some ⟨gd,0,none⟩) 68 cd)∧gd<w.heap.size∧∀c,c<68→w.cell? ⟨gd,c,none⟩=some (.int .i64 (f c:Int))
 cFn:w.cell? ⟨vb,0,none⟩=some (.func (.func 55) #[] #[.pointer (some ⟨rb,0,none⟩)])
 cRest:∃g n c,w.cell? ⟨rb,0,none⟩=some (.slice (some ⟨g,0,none⟩) n c)∧Rd w w.heap.size (some ⟨g,0,none⟩) n (u8s X)∧1088≤n∧n≤c∧c≤9223372036854775807
 lIx:ib<w.heap.size
 lDg:fb<w.heap.size
 lFn:vb<w.heap.size
 lRest:rb<w.heap.size
 okIx:I64 ix
 f3:∀c,f c≤3
theorem Caps.ext {w w':World}{ix:Int}{X:List Int}{f:Nat→Nat}{ib fb vb rb:Nat}(h:Caps w ix X f ib fb vb rb)(hE:Ext w w'):Caps w' ix X f ib fb vb rb:=by
 obtain⟨h1,⟨gd,cd,h2,h3,h4⟩,h5,⟨g,n,c,h6,h7,h8,h9,h10⟩,l1,l2,l3,l4,h11,h12⟩:=h;have hs:=hE.size;exact⟨(hE.cell (p:=⟨ib,0,none⟩) l1).trans h1,⟨gd,cd,(hE.cell (p:=⟨fb,0,none⟩) l2).trans h2,Nat.lt_of_lt_of_le h3 hs,fun c hc=>(hE.cell (p:=⟨gd,c,none⟩) h3).trans (h4 c hc)⟩,(hE.cell (p:=⟨vb,0,none⟩) l3).trans h5,⟨g,n,c,(hE.cell (p:=⟨rb,0,none⟩) l4).trans h6,h7.ext' hE,h8,h9,h10⟩,Nat.lt_of_lt_of_le l1 hs,Nat.lt_of_lt_of_le l2 hs,Nat.lt_of_lt_of_le l3 hs,Nat.lt_of_lt_of_le l4 hs,h11,h12⟩
theorem chain2_any (ix:Int)(X:List Int)(f:Nat→Nat)(ib fb vb rb ch:Nat)(w:World)(hC:Caps w ix X f ib fb vb rb)(hX:Byt X)(hch:ch<68)(hK:KTab w) :
  Calls Tryz.prog 59 #[.int .i64 (ch:Int),.pointer (some ⟨ib,0,none⟩),.pointer (some ⟨fb,0,none⟩),.pointer (some ⟨vb,0,none⟩)] w fun e w'=>e=.returned (.agg (u8s (endD ix X f ch)).toArray)∧Ext w w':=by
 have HK:=hid hK;have HC:=hid hC;obtain⟨gd,cd,x2,x3,x4⟩:=hC.cDg;obtain⟨g,n,cc,y1,y2,y3,y4,y5⟩:=hC.cRest;have hxl:X.length=n:=by simpa [u8s] using y2.1
 have HVD:Hid (Dig (valD X ch)):=hid (valD_dig hX (by omega))
 have HVA:Hid (∀W,Ext w W→Calls Tryz.prog 55 #[.int .i64 (ch:Int),.pointer (some ⟨rb,0,none⟩)] W fun e w'=>e=.returned (.agg (u8s (valD X ch)).toArray)∧Ext W w'):=hid (fun W hW=>value_any X g n cc rb ch W ((hW.cell (p:=⟨rb,0,none⟩) hC.lRest).trans y1) (y2.ext' hW) (by omega) (by omega) y4 y5 (Nat.lt_of_lt_of_le hC.lRest hW.size))
 have H2:=hid x2;have H4:=hid (x4 ch hch);obtain⟨fc,hfc⟩:∃x,x=f ch:=⟨_,rfl⟩
 have hf3:fc≤3:=by rw[hfc];exact hC.f3 ch
 have HAD:Hid (∀W,KTab W→Calls Tryz.prog 60 #[.int .i64 ix,.int .i64 (ch:Int),.int .i64 (fc:Int),.int .i64 3,.agg (u8s (valD X ch)).toArray] W fun e w'=>e=.returned (.agg (u8s (endD ix X f ch)).toArray)∧Ext W w'):=hid (fun W hW=>by
  have h:=advance_any ix (ch:Int) fc 3 (valD X ch) W hC.okIx ⟨by omega,by omega⟩ (by omega) (by decide) HVD.out hW
  rw[hfc] at h⊢;exact h)
 have HTL:Hid ((endD ix X f ch).length=16):=hid (endD_dig HVD.out).l;rw[←hfc] at H4;clear hK hC x2 x4 y1 y2 hfc hxl HVD;generalize endD ix X f ch=D2 at *
 generalize valD X ch=D1 at *
 go_enter Tryz.func59,Tryz.ntmps59
 go_upto_region 1 with fail
 obtain⟨w3,hw3⟩:∃x,x=w.alloc (.cells (u8s (List.replicate 16 0)).toArray 26):=⟨_,rfl⟩
 change Code.wp _ _ _ _ (w.alloc (.cells (u8s (List.replicate 16 0)).toArray 26))
 rw[←hw3];have BZ:Hid (Blk w3 w.heap.size 26 (u8s (List.replicate 16 0))):=hid (by rw[hw3];exact Blk.fresh' _ _ _ _ _ rfl rfl)
 have E3:Hid (Ext w w3):=hid (by rw[hw3];exact (Ext.refl w).alloc _)
 clear hw3
 refine wp_region_flowG 10 ?FW1 (fun us=>?_) (by kernel_rfl) (by kernel_rfl) (fun a b=>Ext a b) Ext.refl (fun h1 h2=>h1.next h2) (fun i v W=>match i with
  | 0=>v=.int .i64 ix
  | 1=>v=.int .i64 (ch:Int)
  | 2=>v=.slice (some ⟨gd,0,none⟩) 68 cd
  | 3=>v=.int .i64 (ch:Int)
  | 4=>v=.pointer (some ⟨gd,ch,none⟩)
  | 5=>v=.int .i64 (fc:Int)
  | 6=>v=.func (.func 55) #[] #[.pointer (some ⟨rb,0,none⟩)]
  | 7=>v=.int .i64 (ch:Int)
  | 8=>v=.agg (u8s D1).toArray
  | 9=>v=.agg (u8s D2).toArray
  | _=>True) ?_ ?_
 case refine_1 =>
  simp only[List.take_succ_cons,List.take_zero,flowAct,Nat.zero_add,Nat.reduceAdd,Act.put,List.setIfInBounds_toArray,List.set_cons_succ,List.set_cons_zero]
  rfl
 ·simp only[List.take_succ_cons,List.take_zero,flowStepsG]
  refine⟨?_,?_,?_,?_,?_,?_,?_,?_,?_,?_,trivial⟩
  ·intro us W K HE hd HK
   have xk:=((E3.out.next (sg_udrew HE.out)).cell (p:=⟨ib,0,none⟩) HC.out.lIx).trans HC.out.cIx;dsimp only at HK⊢;clear hd;go_wp2_with fail
   exact K_at (Kz HK) (by kernel_rfl)
  ·intro us W K HE hd HK
   dsimp only at HK⊢;clear hd;go_wp2_with fail
   exact K_at (Kz HK) (by kernel_rfl)
  ·intro us W K HE hd HK
   have xk:=((E3.out.next (sg_udrew HE.out)).cell (p:=⟨fb,0,none⟩) HC.out.lDg).trans H2.out;dsimp only at HK⊢;clear hd;go_wp2_with fail
   exact K_at (Kz HK) (by kernel_rfl)
  ·intro us W K HE hd HK
   dsimp only at HK⊢;clear hd;go_wp2_with fail
   exact K_at (Kz HK) (by kernel_rfl)
  ·intro us W K HE hd HK
   have d2:=hd 2 (by kernel_rfl)
   have d3:=hd 3 (by kernel_rfl)
   dsimp only at HK⊢;rw[d2,d3] at HK⊢;clear hd d2 d3;go_wp2_with fail
   exact K_at (Kz HK) (by kernel_rfl)
  ·intro us W K HE hd HK
   have d4:=hd 4 (by kernel_rfl)
   have xk:=((E3.out.next (sg_udrew HE.out)).cell (p:=⟨gd,ch,none⟩) x3).trans H4.out;dsimp only at HK⊢;rw[d4] at HK⊢;clear hd d4;go_wp2_with fail
   exact K_at (Kz HK) (by kernel_rfl)
  ·intro us W K HE hd HK
   have xk:=((E3.out.next (sg_udrew HE.out)).cell (p:=⟨vb,0,none⟩) HC.out.lFn).trans HC.out.cFn;dsimp only at HK⊢;clear hd;go_wp2_with fail
   exact K_at (Kz HK) (by kernel_rfl)
  ·intro us W K HE hd HK
   dsimp only at HK⊢;clear hd;go_wp2_with fail
   exact K_at (Kz HK) (by kernel_rfl)
  ·intro us W K HE hd HK
   have d6:=hd 6 (by kernel_rfl)
   have d7:=hd 7 (by kernel_rfl)
   have EXW:=hid (E3.out.next (sg_udrew HE.out));dsimp only at HK⊢;rw[d6,d7] at HK⊢;clear hd d6 d7;go_wp2_with ((go_at_call 55;(with_reducible refine (HVA.out W EXW.out).mono ?_);rintro e w6 ⟨rfl,hB6⟩))
   exact K_at (HK.out (.agg (u8s D1).toArray) w6 (fun _ _=>rfl) hB6) (by kernel_rfl)
  ·intro us W K hE hd hK
   have d0:=hd 0 (by kernel_rfl)
   have d1:=hd 1 (by kernel_rfl)
   have d5:=hd 5 (by kernel_rfl)
   have d8:=hd 8 (by kernel_rfl)
   have KW:=hid (HK.out.below (E3.out.next (sg_udrew hE.out)));dsimp only at hK⊢;rw[d0,d1,d5,d8] at hK⊢;have HK:=hK;have HE:=hE;clear hK hd hE d0 d1 d5 d8;go_wp2_with ((go_at_call 60;(with_reducible refine (HAD.out W KW.out).mono ?_);rintro e w6 ⟨rfl,hB6⟩))
   exact K_at (HK.out (.agg (u8s D2).toArray) w6 (fun _ _=>rfl) hB6) (by kernel_rfl)
 ·intro us W hE hd
  try dsimp only
  have d9:=hd 9 (by decide)
  simp only[List.drop_succ_cons,List.drop_zero]
  rw[d9];have EW:=hid (sg_udrew hE);have BZ2:=hid (BZ.out.ext EW.out);clear hd hE d9;go_wp2_with (refine wpList_store_blk rfl 26 (.tmp 5) (.tmp 15) (by rfl) w.heap.size (u8s D2) rfl rfl BZ2.out (dg_info.trans (congrArg some (by rw[u8s_len,HTL.out]))) (by rw[u8s_len,u8s_len,HTL.out];rfl) (u8s_one _) ?_;intro w9 hw9 hb9)
  exact bodyPost_ret (results_blk Tryz.results59 _ _ w.heap.size 26 (u8s D2) _ rfl hb9 Tryz.underlying26 rfl (dg_info.trans (congrArg some (by rw[u8s_len,HTL.out])))) rfl ⟨rfl,by rw[hw9.out];exact (E3.out.next EW.out).setRow (Nat.le_refl _) _⟩
theorem leaf24_any (val:Nat→List Int)(ib fb vb:Nat)(w:World)(hv:∀t,t<68→Dig (val t))(hF:∀t:Nat,t<68→∀W,Ext w W→Calls Tryz.prog 59 #[.int .i64 (t:Int),.pointer (some ⟨ib,0,none⟩),.pointer (some ⟨fb,0,none⟩),.pointer (some ⟨vb,0,none⟩)] W fun e w'=>e=.returned (.agg (u8s (val t)).toArray)∧Ext W w')(hK:KTab w) :
  Calls Tryz.prog 58 #[.func (.func 59) #[] #[.pointer (some ⟨ib,0,none⟩),.pointer (some ⟨fb,0,none⟩),.pointer (some ⟨vb,0,none⟩)]] w fun e w'=>e=.returned (.agg (u8s (leafD val)).toArray)∧Ext w w':=by
 have HK:=hid hK;have HF:=hid hF;have HV:=hid hv;have zz:∀W,(zeroValue 26).run Tryz.prog W=.ok (.agg (u8s (List.replicate 16 0)).toArray) W:=fun W=>by kernel_rfl
 obtain⟨Z,hZ⟩:∃Z,Z=u8s (List.replicate 16 0):=⟨_,rfl⟩
 have HZL:Hid (Z.length=16):=hid (by rw[hZ];rfl)
 rw[←hZ] at zz;clear hK hF hv hZ;go_enter Tryz.func58,Tryz.ntmps58
 go_upto_region 2 with fail
 obtain⟨w3,hw3⟩:∃x,x=(w.alloc (.cells Z.toArray 26)).alloc (.cells #[.pointer none,.slice none 0 0] 147):=⟨_,rfl⟩
 change Code.wp _ _ _ _ ((w.alloc (.cells Z.toArray 26)).alloc (.cells #[.pointer none,.slice none 0 0] 147))
 rw[←hw3];have BZ:Hid (Blk w3 w.heap.size 26 Z):=hid (by rw[hw3];exact (Blk.fresh' _ _ _ _ _ rfl rfl).alloc _)
 have BB:Hid (Bld w.heap.size w3 (w.heap.size+1) (flatD val 0)):=hid (by rw[hw3];have h:=Bld.fresh w.heap.size (w.alloc (.cells Z.toArray 26)) (by simp);rw[World.size_alloc] at h;exact h)
 have E3:Hid (Ext w w3):=hid (by rw[hw3];exact ((Ext.refl w).alloc _).alloc _)
 clear hw3;go_wp2_with fail
 go_loopw [7] (fun x wr=>∃t:Nat,t≤68∧x=.int .i64 (t:Int)∧Bld w.heap.size wr (w.heap.size+1) (flatD val t)∧Blk wr w.heap.size 26 Z∧Ext w wr) (fun x _=>68-(intOf x).toNat)
 case atStart=>exact⟨0,by omega,rfl,BB.out,BZ.out,E3.out⟩
 case round =>
  clear BB BZ E3;obtain⟨t,ht,rfl,hbb,hbz,hE⟩:=hrel;have BB:=hid hbb;have BZ:=hid hbz;have E3:=hid hE;clear hbb hbz hE;obtain⟨wo,rfl⟩:∃x:World,x=wr:=⟨_,rfl⟩
  by_cases hlt:t<68
  ·have HC:=hid (HF.out t hlt wo E3.out)
   have HFS:Hid (flatD val (t+1)=flatD val t++val t):=hid (flatD_succ val t);have HFL:Hid ((flatD val t).length=16*t):=hid (flatD_len val (fun j hj=>HV.out j (by omega)))
   have HD:=hid (HV.out t hlt);obtain⟨U,hU⟩:∃U,U=val t:=⟨_,rfl⟩
   have HU:=hid hU;have HUL:Hid ((u8s U).length=16):=hid (by rw[hU,u8s_len];exact HD.out.l)
   rw[←hU] at HC;clear hU
   go_wp2_with (first
    | (go_at_call 59;(with_reducible refine HC.out.mono ?_);rintro e w5 ⟨rfl,hE5⟩;have E5:=hid hE5;clear hE5)
    | ((refine wpList_store_fresh rfl 26 (.tmp 5) (.tmp 12) rfl _ w5.heap.size rfl Z (u8s U) 26 (by rfl) (by rfl) rfl (dg_info.trans (congrArg some HUL.out.symm)) (HZL.out.trans HUL.out.symm) (u8s_one U) ?_);intro w6 hw6 hE6 hz6;have E6:Hid (Ext wo w6):=hid (E5.out.next hE6);have B6:=hid hw6;have HW:=hid (write_any w.heap.size (w.heap.size+1) (flatD val t) U (some ⟨w5.heap.size,0,none⟩) 16 16 w6 w (BB.out.ext E6.out) (B6.out.rd HUL.out) (by rw[HFL.out];omega) rfl (E3.out.next E6.out));have HZ6:=hid (BZ.out.ext E6.out);clear hw6 hE6 hz6)
    | (go_at_call 92;(with_reducible refine HW.out.mono ?_);rintro e w7 ⟨rfl,hB7,hE7,hK7⟩;have HB7:=hid hB7;have E7:=hid hE7;have Z7:=hid (hK7 _ _ _ (by omega) (by decide) HZ6.out);clear hB7 hE7 hK7))
   exact⟨⟨t+1,by omega,by go_num,by rw[HFS.out,←HU.out];exact HB7.out,Z7.out,E7.out⟩,by simp [intOf];omega⟩
  ·obtain rfl:t=68:=by omega
   obtain⟨F,hF⟩:∃F,F=flatD val 68:=⟨_,rfl⟩
   have HFL:Hid (F.length=1088):=hid (by rw[hF];exact flatD_len val (fun j hj=>HV.out j hj))
   have HFB:Hid (Byt F):=hid (by rw[hF];exact flatD_byt val (fun j hj=>HV.out j hj))
   obtain⟨U,hU⟩:∃U,U=ofD 3 [strOf F]:=⟨_,rfl⟩
   obtain⟨V,hV⟩:∃V,V=ofD 1 [strOf U]:=⟨_,rfl⟩
   have HLV:Hid (V=leafD val):=hid (by rw[hV,hU,hF];rfl)
   have HU:Hid (U=ofD 3 [strOf F]):=hid hU;have HV2:Hid (V=ofD 1 [strOf U]):=hid hV;have HUD:Hid (Dig U):=hid (by rw[hU];exact ofD_dig _ _)
   have HUL:Hid ((u8s U).length=16):=hid (by rw[u8s_len];exact HUD.out.l)
   have HVL:Hid ((u8s V).length=16):=hid (by rw[hV,u8s_len];exact ofD_len _ _)
   have HEN1:Hid ((encs [strOf F]).length≤100000000000):=hid (by
    have h:=sg_encB_le (strOf F) (by rw[strOf_size,HFL.out];decide)
    rw[strOf_size,HFL.out] at h;simp only[encs,List.append_nil]
    omega)
   have HEN2:Hid ((encs [strOf U]).length≤100000000000):=hid (by
    have h:=sg_encB_le (strOf U) (by rw[dig_size HUD.out];decide)
    rw[dig_size HUD.out] at h;simp only[encs,List.append_nil]
    omega)
   rw[←hF] at BB;have HSTR:=hid (string_any w.heap.size (w.heap.size+1) F wo w BB.out HFB.out (by rw[HFL.out];decide) (by rw[HFL.out];decide) rfl E3.out)
   clear hF hU hV BB;have HO1:Hid (∀W,Ext w W→Calls Tryz.prog 106 #[.int .i64 3,.slice (some ⟨W.heap.size,0,none⟩) 1 1] (W.alloc (.cells #[.string (strOf F)] 9)) fun e w'=>e=.returned (.agg (u8s U).toArray)∧Ext W w'):=hid (fun W hW=>(of_any 3 [strOf F] (some ⟨W.heap.size,0,none⟩) 1 1 _ (rd_str1 W _) (by decide) HEN1.out (HK.out.below (hW.alloc _))).mono fun e w' h=>⟨by rw[h.1,HU.out];rfl,((Ext.refl W).alloc _).next h.2⟩)
   have HO2:Hid (∀W,Ext w W→Calls Tryz.prog 106 #[.int .i64 1,.slice (some ⟨W.heap.size,0,none⟩) 1 1] (W.alloc (.cells #[.string (strOf U)] 9)) fun e w'=>e=.returned (.agg (u8s V).toArray)∧Ext W w'):=hid (fun W hW=>(of_any 1 [strOf U] (some ⟨W.heap.size,0,none⟩) 1 1 _ (rd_str1 W _) (by decide) HEN2.out (HK.out.below (hW.alloc _))).mono fun e w' h=>⟨by rw[h.1,HV2.out];rfl,((Ext.refl W).alloc _).next h.2⟩)
   have HCV:Hid (∀W g,Blk W g 26 (u8s U)→(convert 23 9 (.slice (some ⟨g,0,none⟩) 16 16)).run Tryz.prog W=.ok (.string (strOf U)) W):=hid (fun W g hB=>run_toStr (P:=Tryz.prog) Tryz.underlying23 Tryz.underlying5 Tryz.underlying9 (hB.rd HUL.out) 16 (fun h=>by cases h))
   go_wp2_with (first
    | (go_at_call 94;(with_reducible refine HSTR.out.mono ?_);rintro e w5 ⟨rfl,hE5,hZ5⟩;have E5:=hid hE5;have Z5:=hid (hZ5 _ _ (by decide) BZ.out);have HOA:=hid (HO1.out w5 hE5);clear hE5 hZ5)
    | (go_at_call 106;(with_reducible refine HOA.out.mono ?_);rintro e w6 ⟨rfl,hE6⟩;have E6:Hid (Ext w5 w6):=hid hE6;clear hE6)
    | ((refine wpList_store_fresh rfl 26 (.tmp 6) (.tmp 18) rfl _ w6.heap.size rfl Z (u8s U) 26 (by rfl) (by rfl) rfl (dg_info.trans (congrArg some HUL.out.symm)) (HZL.out.trans HUL.out.symm) (u8s_one U) ?_);intro w7 hw7 hE7 hz7;have E7:Hid (Ext w w7):=hid (E5.out.next (E6.out.next hE7));have hcv:=HCV.out w7 _ hw7;have Z7:=hid (Z5.out.ext (E6.out.next hE7));have HOB:=hid (HO2.out w7 E7.out);clear hw7 hE7 hz7)
    | (go_at_call 106;(with_reducible refine HOB.out.mono ?_);rintro e w8 ⟨rfl,hE8⟩;have E8:Hid (Ext w w8):=hid (E7.out.next hE8);have Z8:=hid (Z7.out.ext hE8);clear hE8)
    | (refine wpList_store_blk rfl 26 (.tmp 2) (.tmp 22) (by rfl) w.heap.size (u8s V) rfl rfl Z8.out (dg_info.trans (congrArg some HVL.out.symm)) (HZL.out.trans HVL.out.symm) (u8s_one _) ?_;intro w9 hw9 hb9))
   exact bodyPost_ret (results_blk Tryz.results58 _ _ w.heap.size 26 (u8s V) _ rfl hb9 Tryz.underlying26 rfl (dg_info.trans (congrArg some HVL.out.symm))) rfl ⟨by rw[HLV.out],by rw[hw9.out];exact E8.out.setRow (Nat.le_refl _) _⟩
end
section
attribute [local go_sem ↓] wp_at_zero wp_at_succ
theorem run_toBytes2 {P:Program}(W:World)(src dst e:TypeId)(s:ByteArray)(hs:P.underlying src=some .string)(hd:P.underlying dst=some (.slice e))(he:P.underlying e=some (.int .u8))(hsz:s.size≤1000000000000) :
  ∃c w',(convert src dst (.string s)).run P W=.ok (.slice (some ⟨W.heap.size,0,none⟩) s.size c) w'∧(s.size≤c∧c≤9223372036854775807)∧Rd w' w'.heap.size (some ⟨W.heap.size,0,none⟩) s.size (u8s (bys s))∧Below W.heap.size W w':=by
 obtain⟨c,w',h,hR,hB⟩:=run_toBytes W src dst e s hs hd he;refine⟨c,w',h,?_,hR,hB⟩
 have h2:=run_bytes_of_string W src dst e s hs hd he;rw[h] at h2;injection h2 with h2 _
 injection h2 with _ _ h2
 rw[h2];have h3:=grownCap_ge W s.size 0 e;have h4:=grownCap_le_maxLen W s.size 0 e (by unfold maxLen;omega)
 unfold maxLen at h4;exact⟨h3,h4⟩
theorem wrap_id (x:Int)(h0:-9223372036854775808≤x)(h1:x≤9223372036854775807):IntKind.i64.wrap x=x:=by
 unfold IntKind.wrap;simp [IntKind.bits,IntKind.signed]
 omega
theorem verify_form (pub:List Int)(h i p m:Nat)(msg S:ByteArray)(X:List Int)(w:World)(hpub:Dig pub)(h6:h≤6)(hp:p=2^h)(hip:i<p)(hm:msg.size≤1000000)(hS:S=strOf (encInt (i:Int)++X))(hX:Byt X)(hXm:X.length=m)(hm1:m≤1000000)(hne:¬(m:Int)=(68+(h:Int))*16)(hK:KTab w) :
  Calls Tryz.prog 25 #[.agg (u8s pub).toArray,.int .i64 (h:Int),.string msg,.string S] w fun e w'=>e=.returned (.tuple #[.int .i64 0,.int .i64 2])∧Ext w w':=by
 have HK:=hid hK;have hmf:∀(fn:Fn) (first cap:Array Value) (w:World),(Instr.makeFunc fn first cap).run Tryz.prog w=.ok (.func fn first cap) w:=fun _ _ _ _=>rfl
 have hp64:p≤64:=by
  have:=Nat.pow_le_pow_right (show 0<2 by decide) h6
  omega
 have hp2:(2:Int)^h=(p:Int):=by rw[hp];exact_mod_cast rfl
 have HI:Hid (I64 (i:Int)):=hid ⟨by omega,by omega⟩
 have hle:=encInt_le9 (i:Int) HI.out.1 HI.out.2;have hEB:=encInt_byt (i:Int) HI.out.1 HI.out.2;obtain⟨n,hn⟩:∃n,n=(encInt (i:Int)).length:=⟨_,rfl⟩
 have hn9:n≤9:=by rw[hn];exact hle
 have hn0:0<n:=by rw[hn,encInt_length];omega
 have hsz:S.size=n+m:=by rw[hS,strOf_size,List.length_append,←hn,hXm]
 have hSB:bys S=encInt (i:Int)++X:=by rw[hS];exact bys_strOf _ (sg_byt_app hEB hX)
 have hcut:S.extract n S.size=strOf X:=by
  rw[←strOf_bys (S.extract n S.size),bys_extract,hSB]
  congr 1
  rw[hn,List.drop_left];rw[List.take_of_length_le];rw[hsz,hXm,hn];omega
 have hXs:(strOf X).size=m:=by rw[strOf_size];exact hXm
 obtain⟨sz,hz⟩:∃z,z=S.size:=⟨_,rfl⟩
 have hszz:sz=n+m:=by rw[hz,hsz]
 have HCV:Hid (∀W,∃cb wb,(convert 9 23 (.string S)).run Tryz.prog W=.ok (.slice (some ⟨W.heap.size,0,none⟩) sz cb) wb∧Calls Tryz.prog 54 #[.slice (some ⟨W.heap.size,0,none⟩) sz cb] wb (fun e w'=>e=.returned (.tuple #[.int .i64 (i:Int),.int .i64 (n:Int),.int .i64 0])∧wb=w')∧Ext W wb):=hid (fun W=>by
  obtain⟨cb,wb,hcb,hc2,hRb,hBb⟩:=run_toBytes2 (P:=Tryz.prog) W 9 23 5 S Tryz.underlying9 Tryz.underlying23 Tryz.underlying5 (by omega)
  rw[hSB] at hRb;rw[←hz] at hcb hRb hc2;have hg:=gint_any (encInt (i:Int)++X) _ sz cb wb hRb (sg_byt_app hEB hX) hc2.1 hc2.2;rw[getI_enc (i:Int) X HI.out.1 HI.out.2,←hn] at hg;exact⟨cb,wb,hcb,hg,hBb⟩)
 have HCX:Hid (∀W,∃cb wb,(convert 9 23 (.string (strOf X))).run Tryz.prog W=.ok (.slice (some ⟨W.heap.size,0,none⟩) m cb) wb∧(m≤cb∧cb≤9223372036854775807)∧Rd wb wb.heap.size (some ⟨W.heap.size,0,none⟩) m (u8s X)∧Ext W wb):=hid (fun W=>by
  obtain⟨cb,wb,hcb,hc2,hRb,hBb⟩:=run_toBytes2 (P:=Tryz.prog) W 9 23 5 (strOf X) Tryz.underlying9 Tryz.underlying23 Tryz.underlying5 (by omega)
  rw[bys_strOf X hX,hXs] at hRb;rw[hXs] at hcb hc2;exact⟨cb,wb,hcb,hc2,hRb,hBb⟩)
 have hnS:(n:Int)≤(S.size:Int):=by omega
 have hnz:n≤sz:=by omega
 clear hn hp hle hEB hSB hXm hS hszz hz hsz hXs;go_enter Tryz.func25,Tryz.ntmps25
 go_upto_region 1 with fail
 obtain⟨w1,hw1⟩:∃x,x=w.alloc (.cells (u8s pub).toArray 26):=⟨_,rfl⟩
 change Code.wp _ _ _ _ (w.alloc (.cells (u8s pub).toArray 26))
 rw[←hw1];have E1:Hid (Ext w w1):=hid (by rw[hw1];exact (Ext.refl w).alloc _)
 have B1:Hid (Blk w1 w.heap.size 26 (u8s pub)):=hid (by rw[hw1];exact Blk.fresh' _ _ _ _ _ rfl rfl)
 clear hw1;obtain⟨cb,wb,hcb,HGI0,hEb⟩:=HCV.out w1;have HGI:=hid HGI0;have EB:=hid hEb;clear HGI0 hEb
 go_upto_region 8 with ((first
  | (go_at_call 53;(with_reducible refine (valid_ok h w1 h6).mono ?_);rintro e w3 ⟨rfl,rfl⟩)
  | (go_at_call 54;(with_reducible refine HGI.out.mono ?_);rintro e w3 ⟨rfl,rfl⟩)))
 clear hcb HCV;obtain⟨w3,hw3⟩:∃x,x=wb.alloc (.cells #[.int .i64 (i:Int)] 3):=⟨_,rfl⟩
 change Code.wp _ _ _ _ (wb.alloc (.cells #[.int .i64 (i:Int)] 3))
 rw[←hw3];have EW3:Hid (Ext wb w3):=hid (by rw[hw3];exact (Ext.refl wb).alloc _)
 have BI:Hid (Blk w3 wb.heap.size 3 [.int .i64 (i:Int)]):=hid (by rw[hw3];exact Blk.fresh' _ _ _ _ _ rfl rfl)
 clear hw3;obtain⟨cx,w4,hcx,hcc,hrx,he4⟩:=HCX.out w3;have E4:Hid (Ext w3 w4):=hid he4;have RX:=hid hrx;obtain⟨hc1,hc2⟩:=hcc;clear hrx he4 HCX;go_upto_region 9 with fail
 clear hcx;obtain⟨gx,hgx⟩:∃x,x=w3.heap.size:=⟨_,rfl⟩
 rw[←hgx] at RX⊢;obtain⟨w5,hw5⟩:∃x,x=w4.alloc (.cells #[.slice (some ⟨gx,0,none⟩) m cx] 23):=⟨_,rfl⟩
 change Code.wp _ _ _ _ (w4.alloc (.cells #[.slice (some ⟨gx,0,none⟩) m cx] 23))
 rw[←hw5];have E5:Hid (Ext w4 w5):=hid (by rw[hw5];exact (Ext.refl w4).alloc _)
 have BR:Hid (Blk w5 w4.heap.size 23 [.slice (some ⟨gx,0,none⟩) m cx]):=hid (by rw[hw5];exact Blk.fresh' _ _ _ _ _ rfl rfl)
 have EA:Hid (Ext w w5):=hid (((E1.out.next EB.out).next EW3.out).next (E4.out.next E5.out));have BI5:=hid (BI.out.ext (E4.out.next E5.out));clear hw5 hgx;have ci:=BI5.out.one;have cr:=BR.out.one;have hd0:decide ((i:Int)<0)=false:=decide_eq_false (by omega)
 have hd1:decide ((p:Int)≤(i:Int))=false:=decide_eq_false (by omega)
 have hdp:decide (p≤i)=false:=decide_eq_false (by omega)
 have hwp:IntKind.i64.wrap (p:Int)=(p:Int):=wrap_id _ (by omega) (by omega)
 obtain⟨r,hr⟩:∃r:Nat,r=68+h:=⟨_,rfl⟩
 obtain⟨q,hq⟩:∃q:Nat,q=r*16:=⟨_,rfl⟩
 have hwr:IntKind.i64.wrap (68+(h:Int))=(r:Int):=by rw[wrap_id _ (by omega) (by omega)];omega
 have hwq:IntKind.i64.wrap ((r:Int)*16)=(q:Int):=by rw[wrap_id _ (by omega) (by omega)];omega
 have hmq:((m:Int) != (q:Int))=true:=by rw[bne_iff_ne];omega
 clear hr hq hne;go_wp2_with fail
 go_quiet (fail)
 go_wp2_with fail
 go_ret2
 exact⟨rfl,EA.out.drewN _⟩
end
end Go.Proofs.YtjeecfjeooehhaaGreatDoor