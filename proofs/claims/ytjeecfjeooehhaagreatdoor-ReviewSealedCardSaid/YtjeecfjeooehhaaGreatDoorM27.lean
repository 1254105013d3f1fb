/- sign's Verify of a signature whose number cannot be read or is out of range. Conditions: a height up to 6, a message and a signature of at most 1000000 bytes. -/
import Derived.Test.YtjeecfjeooehhaaGreatDoorM26
import Derived.Test.YtjeecfjeooehhaaGreatDoorM23
import Derived.Test.YtjeecfjeooehhaaGreatDoorM21
import Derived.Test.YtjeecfjeooehhaaGreatDoorM20
import Derived.Test.YtjeecfjeooehhaaGreatDoorM17
import Derived.Test.YtjeecfjeooehhaaGreatDoorM24
set_option linter.unusedSimpArgs false
set_option linter.unusedVariables false
set_option maxHeartbeats 16000000
set_option maxRecDepth 100000
namespace Go.Proofs.YtjeecfjeooehhaaGreatDoor
open Go.RowKit
open Lib (hid)
section
attribute [local go_sem ↓] wp_at_zero wp_at_succ
theorem verify_err (pub:List Int)(h:Nat)(er:Int)(msg S:ByteArray)(w:World)(hpub:Dig pub)(h6:h≤6)(hm:msg.size≤1000000)(hS:S.size≤1000000)(hg:getI (bys S)=(0,0,er))(her:er=2∨er=3) :
  Calls Tryz.prog 25 #[.agg (u8s pub).toArray,.int .i64 (h:Int),.string msg,.string S] w fun e w'=>e=.returned (.tuple #[.int .i64 0,.int .i64 er])∧Ext w w':=by
 obtain⟨sz,hz⟩:∃z,z=S.size:=⟨_,rfl⟩
 have HCV:Hid (∀W,∃cb wb,(convert 9 23 (.string S)).run Tryz.prog W=.ok (.slice (some ⟨W.heap.size,0,none⟩) sz cb) wb∧Calls Tryz.prog 54 #[.slice (some ⟨W.heap.size,0,none⟩) sz cb] wb (fun e w'=>e=.returned (.tuple #[.int .i64 0,.int .i64 0,.int .i64 er])∧wb=w')∧Ext W wb):=hid (fun W=>by
  obtain⟨cb,wb,hcb,hc2,hRb,hBb⟩:=run_toBytes2 (P:=Tryz.prog) W 9 23 5 S Tryz.underlying9 Tryz.underlying23 Tryz.underlying5 (by omega)
  rw[←hz] at hcb hRb hc2;have hgi:=gint_any (bys S) _ sz cb wb hRb (bys_byt S) hc2.1 hc2.2;rw[hg] at hgi;exact⟨cb,wb,hcb,hgi,hBb⟩)
 clear hg hz;have hen:(er != (0:Int))=true:=by rcases her with rfl|rfl<;>decide
 go_enter Tryz.func25,Tryz.ntmps25
 go_upto_region 1 with fail
 obtain⟨w1,hw1⟩:∃x,x=w.alloc (.cells (u8s pub).toArray 26):=⟨_,rfl⟩
 change Code.wp _ _ _ _ (w.alloc (.cells (u8s pub).toArray 26))
 rw[←hw1];have E1:Hid (Ext w w1):=hid (by rw[hw1];exact (Ext.refl w).alloc _)
 clear hw1;obtain⟨cb,wb,hcb,HGI0,hEb⟩:=HCV.out w1;have HGI:=hid HGI0;have EB:=hid hEb;clear HGI0 hEb HCV
 go_wp2_with (first
  | (go_at_call 53;(with_reducible refine (valid_ok h w1 h6).mono ?_);rintro e w3 ⟨rfl,rfl⟩)
  | (go_at_call 54;(with_reducible refine HGI.out.mono ?_);rintro e w3 ⟨rfl,rfl⟩))
 go_ret2
 exact⟨rfl,(E1.out.next EB.out).alloc _⟩
theorem verify_range (pub:List Int)(h p m:Nat)(i:Int)(msg S:ByteArray)(X:List Int)(w:World)(hpub:Dig pub)(h6:h≤6)(hp:p=2^h)(h0:-9223372036854775808≤i)(h1:i≤9223372036854775807)(hip:i<0∨(p:Int)≤i)(hm:msg.size≤1000000)(hS:S=strOf (encInt i++X))(hX:Byt X)(hXm:X.length=m)(hm1:m≤1000000) :
  Calls Tryz.prog 25 #[.agg (u8s pub).toArray,.int .i64 (h:Int),.string msg,.string S] w fun e w'=>e=.returned (.tuple #[.int .i64 0,.int .i64 2])∧Ext w w':=by
 have hmf:∀(fn:Fn) (first cap:Array Value) (w:World),(Instr.makeFunc fn first cap).run Tryz.prog w=.ok (.func fn first cap) w:=fun _ _ _ _=>rfl
 have hp64:p≤64:=by
  have:=Nat.pow_le_pow_right (show 0<2 by decide) h6
  omega
 have hp2:(2:Int)^h=(p:Int):=by rw[hp];exact_mod_cast rfl
 have HI:Hid (I64 i):=hid ⟨h0,h1⟩;have hle:=encInt_le9 i HI.out.1 HI.out.2;have hEB:=encInt_byt i HI.out.1 HI.out.2;obtain⟨n,hn⟩:∃n,n=(encInt i).length:=⟨_,rfl⟩
 have hn9:n≤9:=by rw[hn];exact hle
 have hn0:0<n:=by rw[hn,encInt_length];omega
 have hsz:S.size=n+m:=by rw[hS,strOf_size,List.length_append,←hn,hXm]
 have hSB:bys S=encInt i++X:=by rw[hS];exact bys_strOf _ (sg_byt_app hEB hX)
 have hcut:S.extract n S.size=strOf X:=by
  rw[←strOf_bys (S.extract n S.size),bys_extract,hSB]
  congr 1
  rw[hn,List.drop_left];rw[List.take_of_length_le];rw[hsz,hXm,hn];omega
 have hXs:(strOf X).size=m:=by rw[strOf_size];exact hXm
 obtain⟨sz,hz⟩:∃z,z=S.size:=⟨_,rfl⟩
 have hszz:sz=n+m:=by rw[hz,hsz]
 have HCV:Hid (∀W,∃cb wb,(convert 9 23 (.string S)).run Tryz.prog W=.ok (.slice (some ⟨W.heap.size,0,none⟩) sz cb) wb∧Calls Tryz.prog 54 #[.slice (some ⟨W.heap.size,0,none⟩) sz cb] wb (fun e w'=>e=.returned (.tuple #[.int .i64 i,.int .i64 (n:Int),.int .i64 0])∧wb=w')∧Ext W wb):=hid (fun W=>by
  obtain⟨cb,wb,hcb,hc2,hRb,hBb⟩:=run_toBytes2 (P:=Tryz.prog) W 9 23 5 S Tryz.underlying9 Tryz.underlying23 Tryz.underlying5 (by omega)
  rw[hSB] at hRb;rw[←hz] at hcb hRb hc2;have hg:=gint_any (encInt i++X) _ sz cb wb hRb (sg_byt_app hEB hX) hc2.1 hc2.2;rw[getI_enc i X HI.out.1 HI.out.2,←hn] at hg;exact⟨cb,wb,hcb,hg,hBb⟩)
 have HCX:Hid (∀W,∃cb wb,(convert 9 23 (.string (strOf X))).run Tryz.prog W=.ok (.slice (some ⟨W.heap.size,0,none⟩) m cb) wb∧(m≤cb∧cb≤9223372036854775807)∧Rd wb wb.heap.size (some ⟨W.heap.size,0,none⟩) m (u8s X)∧Ext W wb):=hid (fun W=>by
  obtain⟨cb,wb,hcb,hc2,hRb,hBb⟩:=run_toBytes2 (P:=Tryz.prog) W 9 23 5 (strOf X) Tryz.underlying9 Tryz.underlying23 Tryz.underlying5 (by omega)
  rw[bys_strOf X hX,hXs] at hRb;rw[hXs] at hcb hc2;exact⟨cb,wb,hcb,hc2,hRb,hBb⟩)
 have hnS:(n:Int)≤(S.size:Int):=by omega
 have hnz:n≤sz:=by omega
 clear hn hp hle hEB hSB hXm hS hszz hz hsz hXs;go_enter Tryz.func25,Tryz.ntmps25
 go_upto_region 1 with fail
 obtain⟨w1,hw1⟩:∃x,x=w.alloc (.cells (u8s pub).toArray 26):=⟨_,rfl⟩
 change Code.wp _ _ _ _ (w.alloc (.cells (u8s pub).toArray 26))
 rw[←hw1];have E1:Hid (Ext w w1):=hid (by rw[hw1];exact (Ext.refl w).alloc _)
 have B1:Hid (Blk w1 w.heap.size 26 (u8s pub)):=hid (by rw[hw1];exact Blk.fresh' _ _ _ _ _ rfl rfl)
 clear hw1;obtain⟨cb,wb,hcb,HGI0,hEb⟩:=HCV.out w1;have HGI:=hid HGI0;have EB:=hid hEb;clear HGI0 hEb
 go_upto_region 8 with ((first
  | (go_at_call 53;(with_reducible refine (valid_ok h w1 h6).mono ?_);rintro e w3 ⟨rfl,rfl⟩)
  | (go_at_call 54;(with_reducible refine HGI.out.mono ?_);rintro e w3 ⟨rfl,rfl⟩)))
 clear hcb HCV;obtain⟨w3,hw3⟩:∃x,x=wb.alloc (.cells #[.int .i64 i] 3):=⟨_,rfl⟩
 change Code.wp _ _ _ _ (wb.alloc (.cells #[.int .i64 i] 3))
 rw[←hw3];have EW3:Hid (Ext wb w3):=hid (by rw[hw3];exact (Ext.refl wb).alloc _)
 have BI:Hid (Blk w3 wb.heap.size 3 [.int .i64 i]):=hid (by rw[hw3];exact Blk.fresh' _ _ _ _ _ rfl rfl)
 clear hw3;obtain⟨cx,w4,hcx,hcc,hrx,he4⟩:=HCX.out w3;have E4:Hid (Ext w3 w4):=hid he4;have RX:=hid hrx;obtain⟨hc1,hc2⟩:=hcc;clear hrx he4 HCX;go_upto_region 9 with fail
 clear hcx;obtain⟨gx,hgx⟩:∃x,x=w3.heap.size:=⟨_,rfl⟩
 rw[←hgx] at RX⊢;obtain⟨w5,hw5⟩:∃x,x=w4.alloc (.cells #[.slice (some ⟨gx,0,none⟩) m cx] 23):=⟨_,rfl⟩
 change Code.wp _ _ _ _ (w4.alloc (.cells #[.slice (some ⟨gx,0,none⟩) m cx] 23))
 rw[←hw5];have E5:Hid (Ext w4 w5):=hid (by rw[hw5];exact (Ext.refl w4).alloc _)
 have BR:Hid (Blk w5 w4.heap.size 23 [.slice (some ⟨gx,0,none⟩) m cx]):=hid (by rw[hw5];exact Blk.fresh' _ _ _ _ _ rfl rfl)
 have EA:Hid (Ext w w5):=hid (((E1.out.next EB.out).next EW3.out).next (E4.out.next E5.out));have BI5:=hid (BI.out.ext (E4.out.next E5.out));clear hw5 hgx;have ci:=BI5.out.one;have cr:=BR.out.one;have hwp:IntKind.i64.wrap (p:Int)=(p:Int):=wrap_id _ (by omega) (by omega)
 rcases hip with hneg|hbig
 ·have hd0:decide (i<0)=true:=decide_eq_true hneg
  go_wp2_with fail
  go_quiet (fail)
  go_wp2_with fail
  go_ret2
  exact⟨rfl,EA.out.drewN _⟩
 ·have hd0:decide (i<0)=false:=decide_eq_false (by omega)
  have hd1:decide ((p:Int)≤i)=true:=decide_eq_true hbig;go_wp2_with fail
  go_quiet (fail)
  go_wp2_with fail
  go_ret2
  exact⟨rfl,EA.out.drewN _⟩
end
section
attribute [local go_sem ↓] wp_at_zero wp_at_succ
theorem bys_size (s:ByteArray):(bys s).length=s.size:=by
 have:=strOf_size (bys s)
 rw[strOf_bys] at this;exact this.symm
end
section
attribute [local go_sem ↓] wp_at_zero wp_at_succ
end
section
attribute [local go_sem ↓] wp_at_zero wp_at_succ
def Tree (w:World)(seed:ByteArray)(h g:Nat):Prop:=∀l,l≤h→∃gl cl,w.cell? ⟨g,l,none⟩=some (.slice (some ⟨gl,0,none⟩) (2^(h-l)) cl)∧∀k,k<2^(h-l)→w.rangeAt gl (k*16) (u8s (nodeV seed l k))
theorem rDigest_any (p:List Int)(ix:Int)(ms:ByteArray)(w:World)(hp:Dig p)(hi:I64 ix)(hm:ms.size≤1000000000)(hK:RTab w) :
  Calls Tryz.prog 24 #[.agg (u8s p).toArray,.int .i64 ix,.string ms] w fun e w'=>e=.returned (.agg (u8s (digestD p ix ms)).toArray)∧Ext w w':=by
 have HK:=hid hK;have HP:=hid hp;have HI:=hid hi;have hle:=encInt_le9 ix hi.1 hi.2;have HEN:=hid (encs_three (strOf p) (strOf (encInt ix)) ms (by rw[dig_size hp];decide) (by rw[strOf_size];omega) hm)
 obtain⟨S3,hS3⟩:∃x,x=strOf (encInt ix):=⟨_,rfl⟩
 have HS3:=hid hS3;rw[←hS3] at HEN;obtain⟨D2,hD2⟩:∃x,x=digestD p ix ms:=⟨_,rfl⟩
 have HD2:Hid (D2=ofD 4 [strOf p,S3,ms]):=hid (by rw[hD2,hS3];rfl)
 have HD2L:Hid (D2.length=16):=hid (by rw[hD2];exact ofD_len _ _)
 have HINT:=hid (fun W=>rint_any ix W hi.1 hi.2)
 rw[←hD2];clear hK hp hi hle hS3 hD2;go_enter Tryz.func24,Tryz.ntmps24
 go_upto_region 1 with fail
 obtain⟨w3,hw3⟩:∃x,x=(w.alloc (.cells (u8s p).toArray 26)).alloc (.cells (u8s (List.replicate 16 0)).toArray 26):=⟨_,rfl⟩
 change Code.wp _ _ _ _ ((w.alloc (.cells (u8s p).toArray 26)).alloc (.cells (u8s (List.replicate 16 0)).toArray 26))
 rw[←hw3];have BV:Hid (Blk w3 w.heap.size 26 (u8s p)):=hid (by rw[hw3];exact (Blk.fresh' _ _ _ _ _ rfl rfl).alloc _)
 have BZ:Hid (Blk w3 (w.heap.size+1) 26 (u8s (List.replicate 16 0))):=hid (by rw[hw3];exact Blk.fresh' _ _ _ _ _ rfl (by simp))
 have E3:Hid (Ext w w3):=hid (by rw[hw3];exact ((Ext.refl w).alloc _).alloc _)
 clear hw3
 go_wp2_with (first
  | (refine wpList_load_blk rfl 26 (.tmp 3) rfl w.heap.size (by kernel_rfl) BV.out Tryz.underlying26 rfl (dg_info.trans (congrArg some (by rw[u8s_len,HP.out.l]))) ?_)
  | (go_at_call 51;(with_reducible refine (rtext_any p w3 HP.out.l).mono ?_);rintro e w4 ⟨rfl,hE4⟩;have E4:Hid (Ext w w4):=hid (E3.out.next hE4);have BZ4:=hid (BZ.out.ext hE4);clear hE4)
  | (go_at_call 52;(with_reducible refine (HINT.out w4).mono ?_);rintro e w5 ⟨⟨A3,c3,rfl,ho⟩,hB⟩;have R5:=Rd.of_own ho;have hcv:=run_toStr (P:=Tryz.prog) Tryz.underlying23 Tryz.underlying5 Tryz.underlying9 R5 c3 (sg_nil _ _ R5);rw[←HS3.out] at hcv;have E5:Hid (Ext w w5):=hid (E4.out.next hB);have BZ5:=hid (BZ4.out.ext hB);clear hB ho R5)
  | (go_at_call 50;(with_reducible refine (rof_any 4 [strOf p,S3,ms] (some ⟨w5.heap.size,0,none⟩) 3 3 _ ((Blk.fresh w5 9 [.string (strOf p),.string S3,.string ms]).rd rfl) (by decide) HEN.out (HK.out.below (E5.out.alloc _))).mono ?_);rintro e w6 ⟨he,hE6⟩;(obtain rfl:e=.returned (.agg (u8s D2).toArray):=by rw[he,HD2.out];rfl);have E6:Hid (Ext w w6):=hid ((E5.out.alloc _).next hE6);have BZ6:=hid (BZ5.out.ext (((Ext.refl w5).alloc _).next hE6));clear hE6 he)
  | (refine wpList_store_blk rfl 26 (.tmp 6) (.tmp 14) (by rfl) (w.heap.size+1) (u8s D2) rfl rfl BZ6.out (dg_info.trans (congrArg some (by rw[u8s_len,HD2L.out]))) (by rw[u8s_len,u8s_len,HD2L.out];rfl) (u8s_one _) ?_;intro w9 hw9 hb9))
 exact bodyPost_ret (results_blk Tryz.results24 _ _ (w.heap.size+1) 26 (u8s D2) _ rfl hb9 Tryz.underlying26 rfl (dg_info.trans (congrArg some (by rw[u8s_len,HD2L.out])))) rfl ⟨rfl,by rw[hw9.out];exact E6.out.setRow (Nat.le_succ _) _⟩
end
end Go.Proofs.YtjeecfjeooehhaaGreatDoor