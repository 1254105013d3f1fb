/- review.Sign, road by road. Conditions: RevV; a seed of 32 bytes; the table of constants is laid. -/
import Derived.Test.YtjeecfjeooehhaaGreatDoorM31
import Derived.Test.YtjeecfjeooehhaaGreatDoorM14
import Derived.Test.YtjeecfjeooehhaaGreatDoorM13
set_option linter.unusedSimpArgs false
set_option linter.unusedVariables false
set_option maxHeartbeats 16000000
set_option maxRecDepth 100000
namespace Go.Proofs.YtjeecfjeooehhaaGreatDoor
open Go.RowKit
open Lib (hid)
section
attribute [local go_sem ↓] wp_at_zero wp_at_succ
theorem key_info:(Tryz.prog.info? 52).map (·.size)=some 2:=by kernel_rfl
theorem sig_invalid (seed:ByteArray)(H:Int)(r:Rev)(A:Option Addr)(n c:Nat)(w:World)(hr:RevV w r A n c)(hv:validE r≠0) :
  Calls Tryz.prog 17 #[.agg (keyC seed H).toArray,.agg (revC r A n c).toArray] w fun e w'=>e=.returned (.tuple #[.agg Z0.toArray,.int .i64 (validE r)])∧Ext w w':=by
 have HCL:Hid ((revC r A n c).length=22):=hid (revC_len _ _ _ _ hr.mean);have HR:=hid hr;have HVL:Hid (∀W,Ext w W→Calls Tryz.prog 23 #[.agg (revC r A n c).toArray] W fun e w'=>e=.returned (.int .i64 (validE r))∧Ext W w'):=hid (fun W hW=>valid_any r A n c W (HR.out.ext hW))
 generalize validE r=V at *
 have hvn:(V != (0:Int))=true:=by rw[bne_iff_ne];exact hv
 clear hr hv;go_enter Tryz.func17,Tryz.ntmps17
 go_upto_region 1 with fail
 obtain⟨w2,hw2⟩:∃x,x=((w.alloc (.cells (keyC seed H).toArray 52)).alloc (.cells (revC r A n c).toArray 28)).alloc (.cells Z0.toArray 28):=⟨_,rfl⟩
 change Code.wp _ _ _ _ (((w.alloc (.cells (keyC seed H).toArray 52)).alloc (.cells (revC r A n c).toArray 28)).alloc (.cells Z0.toArray 28))
 rw[←hw2];have E2:Hid (Ext w w2):=hid (by rw[hw2];exact (((Ext.refl w).alloc _).alloc _).alloc _)
 have BK:Hid (Blk w2 w.heap.size 52 (keyC seed H)):=hid (by rw[hw2];exact ((Blk.fresh' _ _ _ _ _ rfl rfl).alloc _).alloc _)
 have BR:Hid (Blk w2 (w.heap.size+1) 28 (revC r A n c)):=hid (by rw[hw2];exact (Blk.fresh' _ _ _ _ _ rfl (by simp)).alloc _)
 have BZ:Hid (Blk w2 (w.heap.size+2) 28 Z0):=hid (by rw[hw2];exact Blk.fresh' _ _ _ _ _ rfl (by simp))
 clear hw2
 go_wp2_with (first
  | (refine wpList_load_blk rfl 28 (.tmp 3) rfl (w.heap.size+1) (by kernel_rfl) BR.out Tryz.underlying28 rfl (info_rev.trans (congrArg some HCL.out.symm)) ?_)
  | (go_at_call 23;(with_reducible refine (HVL.out w2 E2.out).mono ?_);rintro e w3 ⟨rfl,hE3⟩;have E3:Hid (Ext w w3):=hid (E2.out.next hE3);have BR3:=hid (BR.out.ext hE3);have BZ3:=hid (BZ.out.ext hE3);have BK3:=hid (BK.out.ext hE3);clear hE3)
  | (refine wpList_build_eq (by rfl) 28 _ rfl _ (by kernel_rfl) Z0 build_rev0 ?_)
  | (refine wpList_store_blk rfl 28 (.tmp 4) (.tmp 15) (by rfl) (w.heap.size+2) Z0 (by kernel_rfl) (by kernel_rfl) BZ3.out info_rev rfl (revC_one rev0 none 0 0) ?_;intro w9 hw9 hb9;have E9:Hid (Ext w w9):=hid (by rw[hw9.out];exact E3.out.setRow (by omega) _);clear hw9))
 exact bodyPost_ret (results_blk_tmp Tryz.results17 _ _ (w.heap.size+2) 28 Z0 _ rfl hb9 Tryz.underlying28 rfl info_rev) rfl ⟨rfl,E9.out⟩
theorem sig_height (seed:ByteArray)(H:Int)(r:Rev)(A:Option Addr)(n c:Nat)(w:World)(hs:seed.size=32)(hr:RevV w r A n c)(hv:validE r=0)(hH:H<0∨4<H) :
  Calls Tryz.prog 17 #[.agg (keyC seed H).toArray,.agg (revC r A n c).toArray] w fun e w'=>e=.returned (.tuple #[.agg Z0.toArray,.int .i64 1])∧Ext w w':=by
 have HCL:Hid ((revC r A n c).length=22):=hid (revC_len _ _ _ _ hr.mean);have HR:=hid hr;have HVL:Hid (∀W,Ext w W→Calls Tryz.prog 23 #[.agg (revC r A n c).toArray] W fun e w'=>e=.returned (.int .i64 0)∧Ext W w'):=hid (fun W hW=>by rw[←hv];exact valid_any r A n c W (HR.out.ext hW))
 obtain⟨P0,hP0⟩:∃P,P=pubC (List.replicate 16 0) 0:=⟨_,rfl⟩
 have HPL:Hid (P0.length=17):=hid (by rw[hP0];rfl)
 have HP1:Hid (∀v∈P0,v.oneCell'=true):=hid (by rw[hP0];exact pubC_one _ _)
 have HPU:Hid (∀W,Calls Tryz.prog 22 #[.agg (keyC seed H).toArray] W fun e w'=>e=.returned (.tuple #[.agg P0.toArray,.int .i64 1])∧Ext W w'):=hid (fun W=>by
  rw[hP0];rcases hH with h|h
  ·exact kpublic_neg seed H W hs h
  ·exact kpublic_big seed H W h)
 clear hr hv hP0;go_enter Tryz.func17,Tryz.ntmps17
 go_upto_region 1 with fail
 obtain⟨w2,hw2⟩:∃x,x=((w.alloc (.cells (keyC seed H).toArray 52)).alloc (.cells (revC r A n c).toArray 28)).alloc (.cells Z0.toArray 28):=⟨_,rfl⟩
 change Code.wp _ _ _ _ (((w.alloc (.cells (keyC seed H).toArray 52)).alloc (.cells (revC r A n c).toArray 28)).alloc (.cells Z0.toArray 28))
 rw[←hw2];have E2:Hid (Ext w w2):=hid (by rw[hw2];exact (((Ext.refl w).alloc _).alloc _).alloc _)
 have BK:Hid (Blk w2 w.heap.size 52 (keyC seed H)):=hid (by rw[hw2];exact ((Blk.fresh' _ _ _ _ _ rfl rfl).alloc _).alloc _)
 have BR:Hid (Blk w2 (w.heap.size+1) 28 (revC r A n c)):=hid (by rw[hw2];exact (Blk.fresh' _ _ _ _ _ rfl (by simp)).alloc _)
 have BZ:Hid (Blk w2 (w.heap.size+2) 28 Z0):=hid (by rw[hw2];exact Blk.fresh' _ _ _ _ _ rfl (by simp))
 clear hw2
 go_wp2_with (first
  | (refine wpList_load_blk rfl 28 (.tmp 3) rfl (w.heap.size+1) (by kernel_rfl) BR.out Tryz.underlying28 rfl (info_rev.trans (congrArg some HCL.out.symm)) ?_)
  | (go_at_call 23;(with_reducible refine (HVL.out w2 E2.out).mono ?_);rintro e w3 ⟨rfl,hE3⟩;have E3:Hid (Ext w w3):=hid (E2.out.next hE3);have BR3:=hid (BR.out.ext hE3);have BZ3:=hid (BZ.out.ext hE3);have BK3:=hid (BK.out.ext hE3);clear hE3)
  | (refine wpList_load_blk rfl 52 (.tmp 2) rfl w.heap.size (by kernel_rfl) BK3.out Tryz.underlying52 rfl key_info ?_)
  | (go_at_call 22;(with_reducible refine (HPU.out w3).mono ?_);rintro e w4 ⟨rfl,hE4⟩;have E4:Hid (Ext w w4):=hid (E3.out.next hE4);have BZ4:=hid (BZ3.out.ext hE4);clear hE4)
  | (refine wpList_store_fresh rfl 56 (.tmp 7) (.tmp 20) rfl _ w4.heap.size rfl (pubC (List.replicate 16 0) 0) P0 56 (by rfl) (by kernel_rfl) rfl (pub_info.trans (congrArg some HPL.out.symm)) (by rw[HPL.out];rfl) HP1.out ?_;intro w7 hw7 hE7 hz7;have E7:Hid (Ext w w7):=hid (E4.out.next hE7);have BZ7:=hid (BZ4.out.ext hE7);clear hw7 hE7 hz7)
  | (refine wpList_build_eq (by rfl) 28 _ rfl _ (by kernel_rfl) Z0 build_rev0 ?_)
  | (refine wpList_store_blk rfl 28 (.tmp 4) (.tmp 24) (by rfl) (w.heap.size+2) Z0 (by kernel_rfl) (by kernel_rfl) BZ7.out info_rev rfl (revC_one rev0 none 0 0) ?_;intro w9 hw9 hb9;have E9:Hid (Ext w w9):=hid (by rw[hw9.out];exact E7.out.setRow (by omega) _);clear hw9))
 exact bodyPost_ret (results_blk_tmp Tryz.results17 _ _ (w.heap.size+2) 28 Z0 _ rfl hb9 Tryz.underlying28 rfl info_rev) rfl ⟨rfl,E9.out⟩
theorem sig_spent (seed:ByteArray)(h p:Nat)(r:Rev)(A:Option Addr)(n c:Nat)(w:World)(hs:seed.size=32)(hr:RevV w r A n c)(hv:validE r=0)(h4:h≤4)(hp:p=2^h)(hq:(p:Int)<r.seq)(hK:KTab w) :
  Calls Tryz.prog 17 #[.agg (keyC seed (h:Int)).toArray,.agg (revC r A n c).toArray] w fun e w'=>e=.returned (.tuple #[.agg Z0.toArray,.int .i64 26])∧Ext w w':=by
 have HCL:Hid ((revC r A n c).length=22):=hid (revC_len _ _ _ _ hr.mean);have HR:=hid hr
 have hp16:p≤16:=by
  have:=Nat.pow_le_pow_right (show 0<2 by decide) h4
  omega
 have hp2:(2:Int)^h=(p:Int):=by rw[hp];exact_mod_cast rfl
 have HVL:Hid (∀W,Ext w W→Calls Tryz.prog 23 #[.agg (revC r A n c).toArray] W fun e w'=>e=.returned (.int .i64 0)∧Ext W w'):=hid (fun W hW=>by rw[←hv];exact valid_any r A n c W (HR.out.ext hW))
 obtain⟨P0,hP0⟩:∃P,P=pubC (nodeV seed h 0) (h:Int):=⟨_,rfl⟩
 have HPL:Hid (P0.length=17):=hid (by rw[hP0];exact pubC_len _ _ (nodeV_dig _ _ _).l)
 have HP1:Hid (∀v∈P0,v.oneCell'=true):=hid (by rw[hP0];exact pubC_one _ _)
 have HPU:Hid (∀W,Ext w W→Calls Tryz.prog 22 #[.agg (keyC seed (h:Int)).toArray] W fun e w'=>e=.returned (.tuple #[.agg P0.toArray,.int .i64 0])∧Ext W w'):=hid (fun W hW=>by
  rw[hP0];exact kpublic_any seed h W hs h4 (hK.below hW))
 have hwp:IntKind.i64.wrap (p:Int)=(p:Int):=wrap_id _ (by omega) (by omega)
 have hd1:decide ((p:Int)<r.seq)=true:=decide_eq_true hq;clear hr hv hP0 hK hs hp;go_enter Tryz.func17,Tryz.ntmps17
 go_upto_region 1 with fail
 obtain⟨w2,hw2⟩:∃x,x=((w.alloc (.cells (keyC seed (h:Int)).toArray 52)).alloc (.cells (revC r A n c).toArray 28)).alloc (.cells Z0.toArray 28):=⟨_,rfl⟩
 change Code.wp _ _ _ _ (((w.alloc (.cells (keyC seed (h:Int)).toArray 52)).alloc (.cells (revC r A n c).toArray 28)).alloc (.cells Z0.toArray 28))
 rw[←hw2];have E2:Hid (Ext w w2):=hid (by rw[hw2];exact (((Ext.refl w).alloc _).alloc _).alloc _)
 have BK:Hid (Blk w2 w.heap.size 52 (keyC seed (h:Int))):=hid (by rw[hw2];exact ((Blk.fresh' _ _ _ _ _ rfl rfl).alloc _).alloc _)
 have BR:Hid (Blk w2 (w.heap.size+1) 28 (revC r A n c)):=hid (by rw[hw2];exact (Blk.fresh' _ _ _ _ _ rfl (by simp)).alloc _)
 have BZ:Hid (Blk w2 (w.heap.size+2) 28 Z0):=hid (by rw[hw2];exact Blk.fresh' _ _ _ _ _ rfl (by simp))
 clear hw2
 go_upto_region 7 with (first
  | (refine wpList_load_blk rfl 28 (.tmp 3) rfl (w.heap.size+1) (by kernel_rfl) BR.out Tryz.underlying28 rfl (info_rev.trans (congrArg some HCL.out.symm)) ?_)
  | (go_at_call 23;(with_reducible refine (HVL.out w2 E2.out).mono ?_);rintro e w3 ⟨rfl,hE3⟩;have E3:Hid (Ext w w3):=hid (E2.out.next hE3);have BR3:=hid (BR.out.ext hE3);have BZ3:=hid (BZ.out.ext hE3);have BK3:=hid (BK.out.ext hE3);clear hE3)
  | (refine wpList_load_blk rfl 52 (.tmp 2) rfl w.heap.size (by kernel_rfl) BK3.out Tryz.underlying52 rfl key_info ?_)
  | (go_at_call 22;(with_reducible refine (HPU.out w3 E3.out).mono ?_);rintro e w4 ⟨rfl,hE4⟩;have E4:Hid (Ext w w4):=hid (E3.out.next hE4);have BR4:=hid (BR3.out.ext hE4);have BZ4:=hid (BZ3.out.ext hE4);have BK4:=hid (BK3.out.ext hE4);clear hE4)
  | (refine wpList_store_fresh rfl 56 (.tmp 7) (.tmp 20) rfl _ w4.heap.size rfl (pubC (List.replicate 16 0) 0) P0 56 (by rfl) (by kernel_rfl) rfl (pub_info.trans (congrArg some HPL.out.symm)) (by rw[HPL.out];rfl) HP1.out ?_;intro w7 hw7 hE7 hz7;have E7:Hid (Ext w w7):=hid (E4.out.next hE7);have BR7:=hid (BR4.out.ext hE7);have BZ7:=hid (BZ4.out.ext hE7);have BK7:=hid (BK4.out.ext hE7);clear hw7 hE7 hz7))
 have c1:w7.cell? ⟨w.heap.size+1,1,none⟩=some (.int .i64 r.seq):=BR7.out.cell 1
 have c0:w7.cell? ⟨w.heap.size,1,none⟩=some (.int .i64 (h:Int)):=BK7.out.cell 1
 go_quiet (fail)
 have BZD:=hid (BZ7.out.ext ((Ext.refl w7).drewN nq));have ED:Hid (Ext w (w7.drewN nq)):=hid (E7.out.next ((Ext.refl w7).drewN nq))
 go_wp2_with (first
  | (refine wpList_build_eq (by rfl) 28 _ rfl _ (by kernel_rfl) Z0 build_rev0 ?_)
  | (refine wpList_store_blk rfl 28 (.tmp 4) (.tmp 32) (by rfl) (w.heap.size+2) Z0 (by kernel_rfl) (by kernel_rfl) BZD.out info_rev rfl (revC_one rev0 none 0 0) ?_;intro w9 hw9 hb9;have E9:Hid (Ext w w9):=hid (by rw[hw9.out];exact ED.out.setRow (by omega) _);clear hw9))
 exact bodyPost_ret (results_blk_tmp Tryz.results17 _ _ (w.heap.size+2) 28 Z0 _ rfl hb9 Tryz.underlying28 rfl info_rev) rfl ⟨rfl,E9.out⟩
theorem sig_ok (seed:ByteArray)(h p q:Nat)(r:Rev)(A:Option Addr)(n c:Nat)(w:World)(hs:seed.size=32)(hr:RevV w r A n c)(hv:validE r=0)(h4:h≤4)(hp:p=2^h)(hq:r.seq=(q:Int))(hq1:1≤q)(hqp:q≤p)(hw:RevW r)(hm:(msgS r).size≤1000000)(hK:KTab w) :
  Calls Tryz.prog 17 #[.agg (keyC seed (h:Int)).toArray,.agg (revC r A n c).toArray] w fun e w'=>(∃A' c',e=.returned (.tuple #[.agg (revC (sealed r (strOf (signL seed h (p-q) (msgS r)))) A' n c').toArray,.int .i64 0])∧RevV w' (sealed r (strOf (signL seed h (p-q) (msgS r)))) A' n c')∧Ext w w':=by
 have HCL:Hid ((revC r A n c).length=22):=hid (revC_len _ _ _ _ hr.mean);have HR:=hid hr
 have hp16:p≤16:=by
  have:=Nat.pow_le_pow_right (show 0<2 by decide) h4
  omega
 have hp2:(2:Int)^h=(p:Int):=by rw[hp];exact_mod_cast rfl
 have HVL:Hid (∀W,Ext w W→Calls Tryz.prog 23 #[.agg (revC r A n c).toArray] W fun e w'=>e=.returned (.int .i64 0)∧Ext W w'):=hid (fun W hW=>by rw[←hv];exact valid_any r A n c W (HR.out.ext hW))
 obtain⟨P0,hP0⟩:∃P,P=pubC (nodeV seed h 0) (h:Int):=⟨_,rfl⟩
 have HPL:Hid (P0.length=17):=hid (by rw[hP0];exact pubC_len _ _ (nodeV_dig _ _ _).l)
 have HP1:Hid (∀v∈P0,v.oneCell'=true):=hid (by rw[hP0];exact pubC_one _ _)
 have HPU:Hid (∀W,Ext w W→Calls Tryz.prog 22 #[.agg (keyC seed (h:Int)).toArray] W fun e w'=>e=.returned (.tuple #[.agg P0.toArray,.int .i64 0])∧Ext W w'):=hid (fun W hW=>by
  rw[hP0];exact kpublic_any seed h W hs h4 (hK.below hW))
 have hwp:IntKind.i64.wrap (p:Int)=(p:Int):=wrap_id _ (by omega) (by omega)
 obtain⟨S,hS⟩:∃S,S=strOf (signL seed h (p-q) (msgS r)):=⟨_,rfl⟩
 obtain⟨M,hM⟩:∃M,M=msgS r:=⟨_,rfl⟩
 obtain⟨iq,hiq⟩:∃i:Nat,i=p-q:=⟨_,rfl⟩
 have hsub:(p:Int)-(q:Int)=(iq:Int):=by omega
 have hwi:IntKind.i64.wrap (iq:Int)=(iq:Int):=wrap_id _ (by omega) (by omega)
 have HMS:Hid (∀W,Ext w W→Calls Tryz.prog 40 #[.agg (revC r A n c).toArray] W fun e w'=>e=.returned (.string M)∧Ext W w'):=hid (fun W hW=>by rw[hM];exact message_any r A n c W (HR.out.ext hW) hw)
 have HSG:Hid (∀W,Ext w W→Calls Tryz.prog 39 #[.string seed,.int .i64 (h:Int),.int .i64 (iq:Int),.string M] W fun e w'=>e=.returned (.tuple #[.string S,.int .i64 0])∧Ext W w'):=hid (fun W hW=>by
  rw[hS,hM,←hiq];exact sign_any seed (msgS r) h iq p W hs (by omega) hp (by omega) hm (hK.below hW))
 have HSE:=hid (revC_sealed r S A n c hr.mean);have HCS:Hid (∀A' c',(revC (sealed r S) A' n c').length=22):=hid (fun A' c'=>revC_len _ _ _ _ hr.mean)
 have HVS:Hid (∀W A' c',RdN W W.heap.size 3 A' n (idsC r.ops)→n≤c'→c'≤9223372036854775807→RevV W (sealed r S) A' n c'):=hid (fun W A' c' h1 h2 h3=>⟨h1,h2,h3,hr.few,hr.mean,hr.mbyt⟩)
 have HCLN:Hid (∀W,Ext w W→Calls Tryz.prog 41 #[.slice A n c] W fun e w'=>(∃A' c',e=.returned (.slice A' n c')∧w'.ownsRow W.heap.size 68 3 (.slice A' n c') n (idsC r.ops))∧Ext W w'):=hid (fun W hW=>clone_id r.ops A n c W (HR.out.ext hW).row HR.out.few)
 have hd1:decide ((p:Int)<(q:Int))=false:=decide_eq_false (by omega)
 have hdp:decide (p<q)=false:=decide_eq_false (by omega)
 rw[←hS];clear hr hv hP0 hK hs hp hS hM hiq hw hm;go_enter Tryz.func17,Tryz.ntmps17
 go_upto_region 1 with fail
 obtain⟨w2,hw2⟩:∃x,x=((w.alloc (.cells (keyC seed (h:Int)).toArray 52)).alloc (.cells (revC r A n c).toArray 28)).alloc (.cells Z0.toArray 28):=⟨_,rfl⟩
 change Code.wp _ _ _ _ (((w.alloc (.cells (keyC seed (h:Int)).toArray 52)).alloc (.cells (revC r A n c).toArray 28)).alloc (.cells Z0.toArray 28))
 rw[←hw2];have E2:Hid (Ext w w2):=hid (by rw[hw2];exact (((Ext.refl w).alloc _).alloc _).alloc _)
 have BK:Hid (Blk w2 w.heap.size 52 (keyC seed (h:Int))):=hid (by rw[hw2];exact ((Blk.fresh' _ _ _ _ _ rfl rfl).alloc _).alloc _)
 have BR:Hid (Blk w2 (w.heap.size+1) 28 (revC r A n c)):=hid (by rw[hw2];exact (Blk.fresh' _ _ _ _ _ rfl (by simp)).alloc _)
 have BZ:Hid (Blk w2 (w.heap.size+2) 28 Z0):=hid (by rw[hw2];exact Blk.fresh' _ _ _ _ _ rfl (by simp))
 clear hw2
 go_upto_region 7 with (first
  | (refine wpList_load_blk rfl 28 (.tmp 3) rfl (w.heap.size+1) (by kernel_rfl) BR.out Tryz.underlying28 rfl (info_rev.trans (congrArg some HCL.out.symm)) ?_)
  | (go_at_call 23;(with_reducible refine (HVL.out w2 E2.out).mono ?_);rintro e w3 ⟨rfl,hE3⟩;have E3:Hid (Ext w w3):=hid (E2.out.next hE3);have BR3:=hid (BR.out.ext hE3);have BZ3:=hid (BZ.out.ext hE3);have BK3:=hid (BK.out.ext hE3);clear hE3)
  | (refine wpList_load_blk rfl 52 (.tmp 2) rfl w.heap.size (by kernel_rfl) BK3.out Tryz.underlying52 rfl key_info ?_)
  | (go_at_call 22;(with_reducible refine (HPU.out w3 E3.out).mono ?_);rintro e w4 ⟨rfl,hE4⟩;have E4:Hid (Ext w w4):=hid (E3.out.next hE4);have BR4:=hid (BR3.out.ext hE4);have BZ4:=hid (BZ3.out.ext hE4);have BK4:=hid (BK3.out.ext hE4);clear hE4)
  | (refine wpList_store_fresh rfl 56 (.tmp 7) (.tmp 20) rfl _ w4.heap.size rfl (pubC (List.replicate 16 0) 0) P0 56 (by rfl) (by kernel_rfl) rfl (pub_info.trans (congrArg some HPL.out.symm)) (by rw[HPL.out];rfl) HP1.out ?_;intro w7 hw7 hE7 hz7;have E7:Hid (Ext w w7):=hid (E4.out.next hE7);have BR7:=hid (BR4.out.ext hE7);have BZ7:=hid (BZ4.out.ext hE7);have BK7:=hid (BK4.out.ext hE7);clear hw7 hE7 hz7))
 have c1:w7.cell? ⟨w.heap.size+1,1,none⟩=some (.int .i64 (q:Int)):=by rw[←hq];exact BR7.out.cell 1
 have c0:w7.cell? ⟨w.heap.size,1,none⟩=some (.int .i64 (h:Int)):=BK7.out.cell 1
 go_quiet (fail)
 have BRD:=hid (BR7.out.ext ((Ext.refl w7).drewN nq));have BZD:=hid (BZ7.out.ext ((Ext.refl w7).drewN nq));have BKD:=hid (BK7.out.ext ((Ext.refl w7).drewN nq));have ED:Hid (Ext w (w7.drewN nq)):=hid (E7.out.next ((Ext.refl w7).drewN nq));generalize w7.drewN nq=w8 at *
 clear c1 c0;go_upto_region 9 with fail
 refine wp_region_flowG 18 ?FW9 (fun us=>?_) (by kernel_rfl) (by kernel_rfl) (fun a b=>Ext a b) Ext.refl (fun h1 h2=>h1.next h2) (fun i v W=>match i with
  | 0=>v=.pointer (some ⟨w.heap.size,0,none⟩)
  | 1=>v=.string seed
  | 2=>v=.pointer (some ⟨w.heap.size,1,none⟩)
  | 3=>v=.int .i64 (h:Int)
  | 4=>v=.pointer (some ⟨w.heap.size,1,none⟩)
  | 5=>v=.int .i64 (h:Int)
  | 6=>v=.int .i64 (p:Int)
  | 7=>v=.pointer (some ⟨w.heap.size+1,1,none⟩)
  | 8=>v=.int .i64 (q:Int)
  | 9=>v=.int .i64 (iq:Int)
  | 10=>v=.agg (revC r A n c).toArray
  | 11=>v=.string M
  | 12=>v=.tuple #[.string S,.int .i64 0]
  | 13=>v=.tuple #[.string S,.int .i64 0]
  | 14=>v=.string S
  | 15=>v=.int .i64 0
  | 16=>v=.string S
  | 17=>v=.int .i64 0
  | _=>True) ?_ ?_
 case refine_1 =>
  simp only[List.take_succ_cons,List.take_zero,flowAct,Nat.zero_add,Nat.reduceAdd,Act.put,List.setIfInBounds_toArray,List.set_cons_succ,List.set_cons_zero]
  rfl
 ·simp only[List.take_succ_cons,List.take_zero,flowStepsG]
  refine⟨?_,?_,?_,?_,?_,?_,?_,?_,?_,?_,?_,?_,?_,?_,?_,?_,?_,?_,trivial⟩
  ·intro us W K HE hd HK
   dsimp only at HK⊢;clear hd;go_wp2_with fail
   exact K_at (Kz HK) (by kernel_rfl)
  ·intro us W K HE hd HK
   have d0:=hd 0 (by kernel_rfl)
   have cc:W.cell? ⟨w.heap.size,0,none⟩=some (.string seed):=(BKD.out.ext (sg_udrew HE.out)).cell 0
   dsimp only at HK⊢;rw[d0] at HK⊢;clear hd d0;go_wp2_with fail
   exact K_at (Kz HK) (by kernel_rfl)
  ·intro us W K HE hd HK
   dsimp only at HK⊢;clear hd;go_wp2_with fail
   exact K_at (Kz HK) (by kernel_rfl)
  ·intro us W K HE hd HK
   have d2:=hd 2 (by kernel_rfl)
   have cc:W.cell? ⟨w.heap.size,1,none⟩=some (.int .i64 (h:Int)):=(BKD.out.ext (sg_udrew HE.out)).cell 1
   dsimp only at HK⊢;rw[d2] at HK⊢;clear hd d2;go_wp2_with fail
   exact K_at (Kz HK) (by kernel_rfl)
  ·intro us W K HE hd HK
   dsimp only at HK⊢;clear hd;go_wp2_with fail
   exact K_at (Kz HK) (by kernel_rfl)
  ·intro us W K HE hd HK
   have d4:=hd 4 (by kernel_rfl)
   have cc:W.cell? ⟨w.heap.size,1,none⟩=some (.int .i64 (h:Int)):=(BKD.out.ext (sg_udrew HE.out)).cell 1
   dsimp only at HK⊢;rw[d4] at HK⊢;clear hd d4;go_wp2_with fail
   exact K_at (Kz HK) (by kernel_rfl)
  ·intro us W K HE hd HK
   have d5:=hd 5 (by kernel_rfl)
   dsimp only at HK⊢;rw[d5] at HK⊢;clear hd d5;go_wp2_with fail
   exact K_at (Kz HK) (by kernel_rfl)
  ·intro us W K HE hd HK
   dsimp only at HK⊢;clear hd;go_wp2_with fail
   exact K_at (Kz HK) (by kernel_rfl)
  ·intro us W K HE hd HK
   have d7:=hd 7 (by kernel_rfl)
   have cc:W.cell? ⟨w.heap.size+1,1,none⟩=some (.int .i64 (q:Int)):=by rw[←hq];exact (BRD.out.ext (sg_udrew HE.out)).cell 1
   dsimp only at HK⊢;rw[d7] at HK⊢;clear hd d7;go_wp2_with fail
   exact K_at (Kz HK) (by kernel_rfl)
  ·intro us W K HE hd HK
   have d6:=hd 6 (by kernel_rfl)
   have d8:=hd 8 (by kernel_rfl)
   dsimp only at HK⊢;rw[d6,d8] at HK⊢;clear hd d6 d8;go_wp2_with fail
   exact K_at (Kz HK) (by kernel_rfl)
  ·intro us W K HE hd HK
   have BW:=hid (BRD.out.ext (sg_udrew HE.out));dsimp only at HK⊢;clear hd;go_wp2_with ((refine wpList_load_want (by rfl) 28 (.tmp 3) rfl (w.heap.size+1) (by kernel_rfl) BW.out Tryz.underlying28 rfl (info_rev.trans (congrArg some HCL.out.symm)) ?_))
   exact K_at (Kz HK) (by kernel_rfl)
  ·intro us W K HE hd HK
   have d10:=hd 10 (by kernel_rfl)
   have HMW:=hid (HMS.out W (ED.out.next (sg_udrew HE.out)));dsimp only at HK⊢;rw[d10] at HK⊢;clear hd d10;go_wp2_with ((go_at_call 40;(with_reducible refine HMW.out.mono ?_);rintro e w6 ⟨rfl,hB6⟩))
   exact K_at (HK.out (.string M) w6 (fun _ _=>rfl) hB6) (by kernel_rfl)
  ·intro us W K HE hd HK
   have d1:=hd 1 (by kernel_rfl)
   have d3:=hd 3 (by kernel_rfl)
   have d9:=hd 9 (by kernel_rfl)
   have d11:=hd 11 (by kernel_rfl)
   have HSW:=hid (HSG.out W (ED.out.next (sg_udrew HE.out)));dsimp only at HK⊢;rw[d1,d3,d9,d11] at HK⊢;clear hd d1 d3 d9 d11;go_wp2_with ((go_at_call 39;(with_reducible refine HSW.out.mono ?_);rintro e w6 ⟨rfl,hB6⟩))
   exact K_at (HK.out (.tuple #[.string S,.int .i64 0]) w6 (fun _ _=>rfl) hB6) (by kernel_rfl)
  ·intro us W K HE hd HK
   have d12:=hd 12 (by kernel_rfl)
   dsimp only at HK⊢;rw[d12] at HK⊢;clear hd d12;go_wp2_with fail
   exact K_at (Kz HK) (by kernel_rfl)
  ·intro us W K HE hd HK
   have d13:=hd 13 (by kernel_rfl)
   dsimp only at HK⊢;rw[d13] at HK⊢;clear hd d13;go_wp2_with fail
   exact K_at (Kz HK) (by kernel_rfl)
  ·intro us W K HE hd HK
   have d13:=hd 13 (by kernel_rfl)
   dsimp only at HK⊢;rw[d13] at HK⊢;clear hd d13;go_wp2_with fail
   exact K_at (Kz HK) (by kernel_rfl)
  ·intro us W K HE hd HK
   have d14:=hd 14 (by kernel_rfl)
   dsimp only at HK⊢;rw[d14] at HK⊢;clear hd d14;go_wp2_with fail
   exact K_at (Kz HK) (by kernel_rfl)
  ·intro us W K HE hd HK
   have d15:=hd 15 (by kernel_rfl)
   dsimp only at HK⊢;rw[d15] at HK⊢;clear hd d15;go_wp2_with fail
   exact K_at (Kz HK) (by kernel_rfl)
 ·intro us W hE hd
  try dsimp only
  have d16:=hd 16 (by decide)
  have d17:=hd 17 (by decide)
  simp only[List.drop_succ_cons,List.drop_zero]
  rw[d16,d17];have EW:=hid (sg_udrew hE);clear hd hE d16 d17;have BRW:=hid (BRD.out.ext EW.out);have BZW:=hid (BZD.out.ext EW.out);have EWW:=hid (ED.out.next EW.out);have fz:=BRW.out.frozen 21;have cd:W.cell? ⟨w.heap.size+1,21,none⟩=some (.string r.sl):=(BRW.out.cell 21).trans (revC_21 _ _ _ _ HR.out.mean)
  go_upto_region 13 with fail
  obtain⟨wS,hwS⟩:∃x,x=W.setCell ⟨w.heap.size+1,21,none⟩ (.string S):=⟨_,rfl⟩
  change Code.wp _ _ _ _ (W.setCell ⟨w.heap.size+1,21,none⟩ (.string S))
  rw[←hwS];have BS:Hid (Blk wS (w.heap.size+1) 28 (revC (sealed r S) A n c)):=hid (by rw[hwS,←HSE.out];exact BRW.out.set 21 _)
  have BZS:Hid (Blk wS (w.heap.size+2) 28 Z0):=hid (by rw[hwS];exact BZW.out.far (p:=⟨w.heap.size+1,21,none⟩) (by show w.heap.size+2≠w.heap.size+1;omega) _)
  have ES:Hid (Ext w wS):=hid (by rw[hwS];exact EWW.out.setCell (p:=⟨w.heap.size+1,21,none⟩) (by show w.heap.size≤w.heap.size+1;omega) _)
  clear hwS fz cd;have fz:=BS.out.frozen 4;have cd:wS.cell? ⟨w.heap.size+1,4,none⟩=some (.slice A n c):=BS.out.cell 4
  go_upto_region 14 with (go_at_call 41;(with_reducible refine (HCLN.out wS ES.out).mono ?_);rintro e wC ⟨⟨A7,c7,rfl,ho7⟩,hE7⟩;have HO7:=hid ho7;have EC:Hid (Ext w wC):=hid (ES.out.next hE7);have BSC:=hid (BS.out.ext hE7);have BZC:=hid (BZS.out.ext hE7);have fz7:=BSC.out.frozen 4;have cd7:wC.cell? ⟨w.heap.size+1,4,none⟩=some (.slice A n c):=BSC.out.cell 4;have HSZ:Hid (w.heap.size+2<wS.heap.size):=hid BZS.out.lt;clear ho7 hE7)
  obtain⟨wD,hwD⟩:∃x,x=wC.setCell ⟨w.heap.size+1,4,none⟩ (.slice A7 n c7):=⟨_,rfl⟩
  change Code.wp _ _ _ _ (wC.setCell ⟨w.heap.size+1,4,none⟩ (.slice A7 n c7))
  rw[←hwD];have BD:Hid (Blk wD (w.heap.size+1) 28 (revC (sealed r S) A7 n c7)):=hid (by rw[hwD];exact BSC.out.set 4 _)
  have BZ9:Hid (Blk wD (w.heap.size+2) 28 Z0):=hid (by rw[hwD];exact BZC.out.far (p:=⟨w.heap.size+1,4,none⟩) (by show w.heap.size+2≠w.heap.size+1;omega) _)
  have ED9:Hid (Ext w wD):=hid (by rw[hwD];exact EC.out.setCell (p:=⟨w.heap.size+1,4,none⟩) (by show w.heap.size≤w.heap.size+1;omega) _)
  have HOD:Hid (wD.ownsRow wS.heap.size 68 3 (.slice A7 n c7) n (idsC r.ops)):=hid (by rw[hwD];exact (Kept.setCell (F:=fun bb=>bb=w.heap.size+1) (p:=⟨w.heap.size+1,4,none⟩) wC rfl _).own HO7.out (fun bb hbb h=>by have h1:=own_geq HO7.out hbb;have h2:=HSZ.out;omega))
  have hcp:=slice_cap HO7.out;unfold maxLen at hcp;clear hwD fz cd fz7 cd7;go_wp2_with (first|(refine wpList_load_blk rfl 28 (.tmp 3) rfl (w.heap.size+1) (by kernel_rfl) BD.out Tryz.underlying28 rfl (info_rev.trans (congrArg some (HCS.out A7 c7).symm)) ?_)|(refine wpList_store_blk rfl 28 (.tmp 4) (.tmp 59) (by rfl) (w.heap.size+2) (revC (sealed r S) A7 n c7) (by kernel_rfl) (by kernel_rfl) BZ9.out (info_rev.trans (congrArg some (HCS.out A7 c7).symm)) (Eq.trans (b:=22) rfl (HCS.out A7 c7).symm) (revC_one _ _ _ _) ?_;intro w9 hw9 hb9;have E9:Hid (Ext w w9):=hid (by rw[hw9.out];exact ED9.out.setRow (by omega) _);have K9:Hid (Kept (fun bb=>bb=w.heap.size+2) wD w9):=hid (by rw[hw9.out];exact Kept.setRow (F:=fun bb=>bb=w.heap.size+2) wD rfl _);clear hw9))
  exact bodyPost_ret (results_blk_tmp Tryz.results17 _ _ (w.heap.size+2) 28 (revC (sealed r S) A7 n c7) _ rfl hb9 Tryz.underlying28 rfl (info_rev.trans (congrArg some (HCS.out A7 c7).symm))) rfl ⟨⟨A7,c7,rfl,HVS.out w9 A7 c7 (rdn_own (K9.out.own HOD.out (fun bb hbb h=>by have h1:=own_geq HOD.out hbb;have h2:=HSZ.out;omega))) hcp.1 hcp.2⟩,E9.out⟩
end
section
attribute [local go_sem ↓] wp_at_zero wp_at_succ
def pubsC (L:List (List Int×Int)):List Value:=L.flatMap fun x=>pubC x.1 x.2
theorem pubsC_get (L:List (List Int×Int))(hd:∀x∈L,x.1.length=16):∀k x,L[k]?=some x→∀j v,(pubC x.1 x.2)[j]?=some v→(pubsC L)[k*17+j]?=some v:=by
 induction L with
 | nil=>intro k x h;simp at h
 | cons y L ih =>
  intro k x h j v hv;have hy:(pubC y.1 y.2).length=17:=pubC_len _ _ (hd y (List.mem_cons_self ..));have e:pubsC (y::L)=pubC y.1 y.2++pubsC L:=rfl;rw[e]
  cases k with
  | zero =>
   simp only[List.getElem?_cons_zero,Option.some.injEq] at h
   subst h;rw[Nat.zero_mul,Nat.zero_add,List.getElem?_append_left (by have:=(List.getElem?_eq_some_iff.1 hv).1;omega)]
   exact hv
  | succ k =>
   simp only[List.getElem?_cons_succ] at h
   rw[List.getElem?_append_right (by omega),show (k+1)*17+j-(pubC y.1 y.2).length=k*17+j by omega]
   exact ih (fun z hz=>hd z (List.mem_cons_of_mem _ hz)) k x h j v hv
theorem pub_at {w:World}{B n:Nat}{A:Option Addr}{L:List (List Int×Int)}(h:RdN w B 17 A n (pubsC L))(hd:∀x∈L,x.1.length=16)(hn:0<n):∃b p,A=some ⟨b,p,none⟩∧b<B∧∀W:World,(∀a:Addr,a.block<B→W.cell? a=w.cell? a)→∀k x,L[k]?=some x→W.rangeAt b (p+k*17) (pubC x.1 x.2):=by
 obtain⟨b,p,hA,hb,hc⟩:=h.2 hn;refine⟨b,p,hA,hb,fun W hW k x hx j v hv=>?_⟩
 rw[hW _ hb];have:=hc (k*17+j) v (pubsC_get L hd k x hx j v hv)
 rw[←this];simp only[Nat.add_assoc]
theorem pubC_range {W:World}{g o:Nat}{d:List Int}{H:Int}(h:W.rangeAt g o (pubC d H)):W.rangeAt g o (u8s d):=fun j v hv=>h j v (by
 unfold pubC;rw[List.getElem?_append_left (List.getElem?_eq_some_iff.1 hv).1]
 exact hv)
theorem pubC_16 (d:List Int)(H:Int)(hd:d.length=16):(pubC d H)[16]?=some (.int .i64 H):=by
 unfold pubC;rw[List.getElem?_append_right (by rw[u8s_len,hd];exact Nat.le_refl _),u8s_len,hd]
 rfl
def verP (V:Int×Int)(h:Nat)(q:Int):Int:=if V.2=0 then (if V.1+q=((2^h:Nat):Int) then 0 else 10) else 10
theorem verV_bd (pub:List Int)(h:Nat)(msg S:ByteArray)(hS:S.size≤1000000):(verV pub h msg S).2=0→∃k:Nat,k<2^h∧(verV pub h msg S).1=(k:Int):=by
 intro h0;rcases ver_cases pub h msg S hS with ⟨er,her,hg,hv⟩|⟨x,X,hSx,h0',h1,hX,hl,hc,hv⟩|⟨k,X,hSx,hk,hX,hl,hv⟩
 ·rw[hv] at h0;rcases her with rfl|rfl<;>cases h0
 ·rw[hv] at h0;cases h0
 ·rcases hv with ⟨_,hv⟩|⟨_,hv⟩
  ·exact⟨k,hk,by rw[hv]⟩
  ·rw[hv] at h0;cases h0
theorem ver_form (r:Rev)(L:List (List Int×Int))(A B:Option Addr)(n c m dd k h:Nat)(dg:List Int)(w:World)(hr:RevV w r A n c)(hv:validE r=0)(hk:r.shop=(k:Int))(hkm:k<m)(hL:∀x∈L,x.1.length=16)(hB:RdN w w.heap.size 17 B m (pubsC L))(hg:L[k]?=some (dg,(h:Int)))(hdg:Dig dg)(h4:h≤4)(hw:RevW r)(hm:(msgS r).size≤1000000)(hs:r.sl.size≤1000000)(hK:KTab w) :
  Calls Tryz.prog 20 #[.slice B m dd,.agg (revC r A n c).toArray] w fun e w'=>e=.returned (.int .i64 (verP (verV dg h (msgS r) r.sl) h r.seq))∧Ext w w':=by
 have HCL:Hid ((revC r A n c).length=22):=hid (revC_len _ _ _ _ hr.mean);have HR:=hid hr;have HVL:Hid (∀W,Ext w W→Calls Tryz.prog 23 #[.agg (revC r A n c).toArray] W fun e w'=>e=.returned (.int .i64 0)∧Ext W w'):=hid (fun W hW=>by rw[←hv];exact valid_any r A n c W (HR.out.ext hW))
 obtain⟨b,o,rfl,hb,hrg⟩:=pub_at hB hL (by omega)
 have HRG:Hid (∀W,Ext w W→W.rangeAt b (o+k*17) (pubC dg (h:Int))):=hid (fun W hW=>hrg W (fun a ha=>hW.cell ha) k _ hg)
 have HPL:Hid ((pubC dg (h:Int)).length=17):=hid (pubC_len _ _ hdg.l);have HGL:Hid ((u8s dg).length=16):=hid (by rw[u8s_len];exact hdg.l)
 have HP16:=hid (pubC_16 dg (h:Int) hdg.l);obtain⟨p,hp⟩:∃p,p=2^h:=⟨_,rfl⟩
 have hp16:p≤16:=by
  have:=Nat.pow_le_pow_right (show 0<2 by decide) h4
  omega
 have hp2:(2:Int)^h=(p:Int):=by rw[hp];exact_mod_cast rfl
 have hwp:IntKind.i64.wrap (p:Int)=(p:Int):=wrap_id _ (by omega) (by omega)
 have hvz:=(validE_zero hv).1;obtain⟨q,hq⟩:∃q:Nat,r.seq=(q:Int):=Int.eq_ofNat_of_zero_le (by omega)
 have hq16:q≤16:=by omega
 have hbd:=verV_bd dg h (msgS r) r.sl hs;have HVE:=verP;obtain⟨M,hM⟩:∃M,M=msgS r:=⟨_,rfl⟩
 obtain⟨S,hS⟩:∃S,S=r.sl:=⟨_,rfl⟩
 have HMS:Hid (∀W,Ext w W→Calls Tryz.prog 40 #[.agg (revC r A n c).toArray] W fun e w'=>e=.returned (.string M)∧Ext W w'):=hid (fun W hW=>by rw[hM];exact message_any r A n c W (HR.out.ext hW) hw)
 obtain⟨V,hV⟩:∃V,V=verV dg h (msgS r) r.sl:=⟨_,rfl⟩
 obtain⟨x,e,rfl⟩:∃x e,V=(x,e):=⟨V.1,V.2,rfl⟩
 have HSG:Hid (∀W,Ext w W→Calls Tryz.prog 25 #[.agg (u8s dg).toArray,.int .i64 (h:Int),.string M,.string S] W fun ee w'=>ee=.returned (.tuple #[.int .i64 x,.int .i64 e])∧Ext W w'):=hid (fun W hW=>by
  have hh:=verify_all dg h (msgS r) r.sl W hdg (by omega) hm hs (hK.below hW)
  rw[←hV] at hh;rw[hM,hS];exact hh)
 rw[←hV] at hbd⊢;have HVP:Hid (verP (x,e) h r.seq=if e=0 then (if x+(q:Int)=(p:Int) then 0 else 10) else 10):=hid (by unfold verP;rw[hq,hp])
 obtain⟨Y,hY⟩:∃Y,Y=verP (x,e) h r.seq:=⟨_,rfl⟩
 rw[←hY] at HVP⊢;have HBD:Hid (e=0→∃k:Nat,k<p∧x=(k:Int)):=hid (by rw[hp];exact hbd)
 have HB:=hid hb;have HSX:=hid hS;clear hS HVE hr hv hK hp hM hV hw hm hs hrg hg hdg hL hB hbd hvz hY hb;go_enter Tryz.func20,Tryz.ntmps20
 go_upto_region 1 with fail
 obtain⟨w2,hw2⟩:∃x,x=w.alloc (.cells (revC r A n c).toArray 28):=⟨_,rfl⟩
 change Code.wp _ _ _ _ (w.alloc (.cells (revC r A n c).toArray 28))
 rw[←hw2];have E2:Hid (Ext w w2):=hid (by rw[hw2];exact (Ext.refl w).alloc _)
 have BR:Hid (Blk w2 w.heap.size 28 (revC r A n c)):=hid (by rw[hw2];exact Blk.fresh' _ _ _ _ _ rfl rfl)
 clear hw2
 go_upto_region 7 with (first
  | (refine wpList_load_blk rfl 28 (.tmp 3) rfl w.heap.size (by kernel_rfl) BR.out Tryz.underlying28 rfl (info_rev.trans (congrArg some HCL.out.symm)) ?_)
  | (go_at_call 23;(with_reducible refine (HVL.out w2 E2.out).mono ?_);rintro e w3 ⟨rfl,hE3⟩;have E3:Hid (Ext w w3):=hid (E2.out.next hE3);have BR3:=hid (BR.out.ext hE3);have c0:w3.cell? ⟨w.heap.size,0,none⟩=some (.int .i64 (k:Int)):=(by rw[←hk];exact (BR.out.ext hE3).cell 0);have HRG3:=hid (HRG.out w3 E3.out);clear hE3)
  | (refine wpList_load_mid rfl 56 (.tmp 22) rfl b (o+k*17) (by kernel_rfl) (pubC dg (h:Int)) _ HRG3.out Tryz.underlying56 rfl (pub_info.trans (congrArg some HPL.out.symm)) ?_)
  | (refine wpList_store_freshw rfl 56 (.tmp 6) (.tmp 23) rfl w3.heap.size rfl (pubC (List.replicate 16 0) 0) (pubC dg (h:Int)) 56 (by kernel_rfl) (by kernel_rfl) (pub_info.trans (congrArg some HPL.out.symm)) (Eq.trans (b:=17) rfl HPL.out.symm) (pubC_one _ _) ?_;intro w7 hw7 hE7 hz7;have BP:=hid hw7;have E7:Hid (Ext w w7):=hid (E3.out.next hE7);have BR7:=hid (BR3.out.ext hE7);clear hw7 hE7 hz7))
 obtain⟨g,hgg⟩:∃g,g=w3.heap.size:=⟨_,rfl⟩
 rw[←hgg] at BP⊢;clear c0 hgg
 refine wp_region_flowG 14 ?FWp (fun us=>?_) (by kernel_rfl) (by kernel_rfl) (fun a b=>Ext a b) Ext.refl (fun h1 h2=>h1.next h2) (fun i v W=>match i with
  | 0=>v=.pointer (some ⟨g,0,none⟩)
  | 1=>v=.agg (u8s dg).toArray
  | 2=>v=.pointer (some ⟨g,16,none⟩)
  | 3=>v=.int .i64 (h:Int)
  | 4=>v=.agg (revC r A n c).toArray
  | 5=>v=.string M
  | 6=>v=.pointer (some ⟨w.heap.size,21,none⟩)
  | 7=>v=.string S
  | 8=>v=.tuple #[.int .i64 x,.int .i64 e]
  | 9=>v=.tuple #[.int .i64 x,.int .i64 e]
  | 10=>v=.int .i64 x
  | 11=>v=.int .i64 e
  | 12=>v=.int .i64 x
  | 13=>v=.int .i64 e
  | _=>True) ?_ ?_
 case refine_1 =>
  simp only[List.take_succ_cons,List.take_zero,flowAct,Nat.zero_add,Nat.reduceAdd,Act.put,List.setIfInBounds_toArray,List.set_cons_succ,List.set_cons_zero]
  rfl
 ·simp only[List.take_succ_cons,List.take_zero,flowStepsG]
  refine⟨?_,?_,?_,?_,?_,?_,?_,?_,?_,?_,?_,?_,?_,?_,trivial⟩
  ·intro us W K HE hd HK
   dsimp only at HK⊢;clear hd;go_wp2_with fail
   exact K_at (Kz HK) (by kernel_rfl)
  ·intro us W K HE hd HK
   have d0:=hd 0 (by kernel_rfl)
   have BW:=hid (pubC_range (BP.out.ext (sg_udrew HE.out)).range);dsimp only at HK⊢;rw[d0] at HK⊢;clear hd d0;go_wp2_with ((refine wpList_load_mid rfl 26 (.tmp 25) rfl g 0 (by kernel_rfl) (u8s dg) _ BW.out Tryz.underlying26 rfl (dg_info.trans (congrArg some HGL.out.symm)) ?_))
   exact K_at (Kz HK) (by kernel_rfl)
  ·intro us W K HE hd HK
   dsimp only at HK⊢;clear hd;go_wp2_with fail
   exact K_at (Kz HK) (by kernel_rfl)
  ·intro us W K HE hd HK
   have d2:=hd 2 (by kernel_rfl)
   have cc:W.cell? ⟨g,16,none⟩=some (.int .i64 (h:Int)):=((BP.out.ext (sg_udrew HE.out)).cell 16).trans HP16.out
   dsimp only at HK⊢;rw[d2] at HK⊢;clear hd d2;go_wp2_with fail
   exact K_at (Kz HK) (by kernel_rfl)
  ·intro us W K HE hd HK
   have BW:=hid (BR7.out.ext (sg_udrew HE.out));dsimp only at HK⊢;clear hd;go_wp2_with ((refine wpList_load_want (by rfl) 28 (.tmp 3) rfl w.heap.size (by kernel_rfl) BW.out Tryz.underlying28 rfl (info_rev.trans (congrArg some HCL.out.symm)) ?_))
   exact K_at (Kz HK) (by kernel_rfl)
  ·intro us W K HE hd HK
   have d4:=hd 4 (by kernel_rfl)
   have HMW:=hid (HMS.out W (E7.out.next (sg_udrew HE.out)));dsimp only at HK⊢;rw[d4] at HK⊢;clear hd d4;go_wp2_with ((go_at_call 40;(with_reducible refine HMW.out.mono ?_);rintro e w6 ⟨rfl,hB6⟩))
   exact K_at (HK.out (.string M) w6 (fun _ _=>rfl) hB6) (by kernel_rfl)
  ·intro us W K HE hd HK
   dsimp only at HK⊢;clear hd;go_wp2_with fail
   exact K_at (Kz HK) (by kernel_rfl)
  ·intro us W K HE hd HK
   have d6:=hd 6 (by kernel_rfl)
   have cc:W.cell? ⟨w.heap.size,21,none⟩=some (.string S):=by rw[HSX.out];exact ((BR7.out.ext (sg_udrew HE.out)).cell 21).trans (revC_21 _ _ _ _ HR.out.mean)
   dsimp only at HK⊢;rw[d6] at HK⊢;clear hd d6;go_wp2_with fail
   exact K_at (Kz HK) (by kernel_rfl)
  ·intro us W K HE hd HK
   have d1:=hd 1 (by kernel_rfl)
   have d3:=hd 3 (by kernel_rfl)
   have d5:=hd 5 (by kernel_rfl)
   have d7:=hd 7 (by kernel_rfl)
   have HSW:=hid (HSG.out W (E7.out.next (sg_udrew HE.out)));dsimp only at HK⊢;rw[d1,d3,d5,d7] at HK⊢;clear hd d1 d3 d5 d7;go_wp2_with ((go_at_call 25;(with_reducible refine HSW.out.mono ?_);rintro e w6 ⟨rfl,hB6⟩))
   exact K_at (HK.out (.tuple #[.int .i64 x,.int .i64 e]) w6 (fun _ _=>rfl) hB6) (by kernel_rfl)
  ·intro us W K HE hd HK
   have d8:=hd 8 (by kernel_rfl)
   dsimp only at HK⊢;rw[d8] at HK⊢;clear hd d8;go_wp2_with fail
   exact K_at (Kz HK) (by kernel_rfl)
  ·intro us W K HE hd HK
   have d9:=hd 9 (by kernel_rfl)
   dsimp only at HK⊢;rw[d9] at HK⊢;clear hd d9;go_wp2_with fail
   exact K_at (Kz HK) (by kernel_rfl)
  ·intro us W K HE hd HK
   have d9:=hd 9 (by kernel_rfl)
   dsimp only at HK⊢;rw[d9] at HK⊢;clear hd d9;go_wp2_with fail
   exact K_at (Kz HK) (by kernel_rfl)
  ·intro us W K HE hd HK
   have d10:=hd 10 (by kernel_rfl)
   dsimp only at HK⊢;rw[d10] at HK⊢;clear hd d10;go_wp2_with fail
   exact K_at (Kz HK) (by kernel_rfl)
  ·intro us W K HE hd HK
   have d11:=hd 11 (by kernel_rfl)
   dsimp only at HK⊢;rw[d11] at HK⊢;clear hd d11;go_wp2_with fail
   exact K_at (Kz HK) (by kernel_rfl)
 ·intro us W hE hd
  try dsimp only
  have d12:=hd 12 (by decide)
  have d13:=hd 13 (by decide)
  simp only[List.drop_succ_cons,List.drop_zero]
  rw[d12,d13];have EW:=hid (sg_udrew hE);clear hd hE d12 d13;have BRW:=hid (BR7.out.ext EW.out);have BPW:=hid (BP.out.ext EW.out);have EWW:=hid (E7.out.next EW.out);have c1:W.cell? ⟨w.heap.size,1,none⟩=some (.int .i64 (q:Int)):=by rw[←hq];exact BRW.out.cell 1
  have c2:W.cell? ⟨g,16,none⟩=some (.int .i64 (h:Int)):=(BPW.out.cell 16).trans HP16.out
  clear hk hq;go_upto_region 8 with fail
  by_cases he:e=0
  ·obtain⟨u,hu,rfl⟩:=HBD.out he
   subst he;have hws:IntKind.i64.wrap ((u:Int)+(q:Int))=(u:Int)+(q:Int):=wrap_id _ (by omega) (by omega)
   by_cases ht:(u:Int)+(q:Int)=(p:Int)
   ·have ht1:((u:Int)+(q:Int) != (p:Int))=false:=by simp [ht]
    have HT:Hid (Y=0):=hid (HVP.out.trans ((if_pos rfl).trans (if_pos ht)));clear ht;go_quiet (fail)
    go_wp2_with fail
    go_ret
    exact⟨by rw[HT.out];rfl,EWW.out.next ((Ext.refl W).drewN _)⟩
   ·have ht1:((u:Int)+(q:Int) != (p:Int))=true:=by rw[bne_iff_ne];exact ht
    have HT:Hid (Y=10):=hid (HVP.out.trans ((if_pos rfl).trans (if_neg ht)));clear ht;go_quiet (fail)
    go_wp2_with fail
    go_ret
    exact⟨by rw[HT.out];rfl,EWW.out.next ((Ext.refl W).drewN _)⟩
  ·have he1:(e != (0:Int))=true:=by rw[bne_iff_ne];exact he
   have HT:Hid (Y=10):=hid (HVP.out.trans (if_neg he));clear he;go_quiet (fail)
   go_wp2_with fail
   go_ret
   exact⟨by rw[HT.out];rfl,EWW.out.next ((Ext.refl W).drewN _)⟩
end
end Go.Proofs.YtjeecfjeooehhaaGreatDoor