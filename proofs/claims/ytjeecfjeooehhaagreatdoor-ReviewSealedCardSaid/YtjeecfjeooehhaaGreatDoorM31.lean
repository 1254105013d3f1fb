/- The reference's Verify of any signature. Conditions: a height up to 6, a message and a signature of at most 1000000 bytes; the table of constants is laid. -/
import Derived.Test.YtjeecfjeooehhaaGreatDoorM29
import Derived.Test.YtjeecfjeooehhaaGreatDoorM30
import Derived.Test.YtjeecfjeooehhaaGreatDoorM27
import Derived.Test.YtjeecfjeooehhaaGreatDoorM12
import Derived.Test.YtjeecfjeooehhaaGreatDoorM9
import Derived.Test.YtjeecfjeooehhaaGreatDoorM8
import Derived.Test.YtjeecfjeooehhaaGreatDoorM10
import Derived.Test.YtjeecfjeooehhaaGreatDoorM13
set_option linter.unusedSimpArgs false
set_option linter.unusedVariables false
set_option maxHeartbeats 16000000
set_option maxRecDepth 100000
namespace Go.Proofs.YtjeecfjeooehhaaGreatDoor
open Go.RowKit
open Lib (hid)
section
attribute [local go_sem ↓] wp_at_zero wp_at_succ
end
section
def verV (pub:List Int)(h:Nat)(msg S:ByteArray):Int×Int :=
 if (getI (bys S)).2.2≠0 then (0,(getI (bys S)).2.2)
 else if (getI (bys S)).1<0∨((2^h:Nat):Int)≤(getI (bys S)).1∨¬(((bys S).drop (getI (bys S)).2.1.toNat).length:Int)=(68+(h:Int))*16 then (0,2)
 else if rootD pub h (getI (bys S)).1.toNat msg ((bys S).drop (getI (bys S)).2.1.toNat)=pub then ((getI (bys S)).1,0) else (0,10)
theorem ver_cases (pub:List Int)(h:Nat)(msg S:ByteArray)(hS:S.size≤1000000) :
  (∃er:Int,(er=2∨er=3)∧getI (bys S)=(0,0,er)∧verV pub h msg S=(0,er)) ∨
  (∃(x:Int) (X:List Int),S=strOf (encInt x++X)∧-9223372036854775808≤x∧x≤9223372036854775807∧Byt X∧X.length≤1000000∧(x<0∨((2^h:Nat):Int)≤x∨¬(X.length:Int)=(68+(h:Int))*16)∧verV pub h msg S=(0,2)) ∨
  (∃(k:Nat) (X:List Int),S=strOf (encInt (k:Int)++X)∧k<2^h∧Byt X∧X.length=(68+h)*16∧(rootD pub h k msg X=pub∧verV pub h msg S=((k:Int),0)∨¬rootD pub h k msg X=pub∧verV pub h msg S=(0,10))):=by
 have hB:=bys_byt S;rcases getI_cases (bys S) hB with ⟨er,hg,her⟩|⟨x,u,hg,hu1,hu9,hu,h0,h1,he⟩
 ·refine Or.inl ⟨er,her,hg,?_⟩
  unfold verV;rw[hg,if_pos (by rcases her with rfl|rfl<;>decide)]
 ·have hX:Byt ((bys S).drop u):=fun y hy=>hB y (List.mem_of_mem_drop hy)
  have hSx:S=strOf (encInt x++(bys S).drop u):=by rw[he,List.take_append_drop,strOf_bys]
  have hl:((bys S).drop u).length≤1000000:=by
   have:=bys_size S
   rw[List.length_drop];omega
  have hv:verV pub h msg S=if x<0∨((2^h:Nat):Int)≤x∨¬(((bys S).drop u).length:Int)=(68+(h:Int))*16 then (0,2) else if rootD pub h x.toNat msg ((bys S).drop u)=pub then (x,0) else (0,10):=by
   unfold verV;rw[hg];rfl
  by_cases hc:x<0∨((2^h:Nat):Int)≤x∨¬(((bys S).drop u).length:Int)=(68+(h:Int))*16
  ·exact Or.inr (Or.inl ⟨x,_,hSx,h0,h1,hX,hl,hc,by rw[hv,if_pos hc]⟩)
  ·rw[if_neg hc] at hv
   have hx0:0≤x:=by omega
   obtain⟨k,rfl⟩:=Int.eq_ofNat_of_zero_le hx0;refine Or.inr (Or.inr ⟨k,_,hSx,by omega,hX,by omega,?_⟩)
   rw[Int.toNat_natCast] at hv;by_cases hr:rootD pub h k msg ((bys S).drop u)=pub
   ·exact Or.inl ⟨hr,by rw[hv,if_pos hr]⟩
   ·exact Or.inr ⟨hr,by rw[hv,if_neg hr]⟩
theorem verify_all (pub:List Int)(h:Nat)(msg S:ByteArray)(w:World)(hpub:Dig pub)(h6:h≤6)(hm:msg.size≤1000000)(hS:S.size≤1000000)(hK:KTab w) :
  Calls Tryz.prog 25 #[.agg (u8s pub).toArray,.int .i64 (h:Int),.string msg,.string S] w fun e w'=>e=.returned (.tuple #[.int .i64 (verV pub h msg S).1,.int .i64 (verV pub h msg S).2])∧Ext w w':=by
 rcases ver_cases pub h msg S hS with ⟨er,her,hg,hv⟩|⟨x,X,hSx,h0,h1,hX,hl,hc,hv⟩|⟨k,X,hSx,hk,hX,hl,hv⟩
 ·rw[hv];exact verify_err pub h er msg S w hpub h6 hm hS hg her
 ·rw[hv]
  by_cases hc2:x<0∨((2^h:Nat):Int)≤x
  ·exact verify_range pub h (2^h) X.length x msg S X w hpub h6 rfl h0 h1 hc2 hm hSx hX rfl hl
  ·have hx0:0≤x:=by omega
   obtain⟨k,rfl⟩:=Int.eq_ofNat_of_zero_le hx0;exact verify_form pub h k (2^h) X.length msg S X w hpub h6 rfl (by omega) hm hSx hX rfl hl (by omega) hK
 ·refine (verify_gen pub h k (2^h) X.length msg S X w hpub h6 rfl hk hm hSx hX rfl hl hK).mono fun e w' hq=>⟨?_,hq.2⟩
  rcases hv with ⟨hr,hv⟩|⟨hr,hv⟩<;>rw[hv]<;>rcases hq.1 with ⟨hr2,he⟩|⟨hr2,he⟩<;>first|exact he|exact absurd hr hr2|exact absurd hr2 hr
end
section
attribute [local go_sem ↓] wp_at_zero wp_at_succ
theorem rseed_any (x:Int)(w:World)(hx:-9223372036854775808≤x∧x≤9223372036854775807) :
  Calls Tryz.prog 16 #[.int .i64 x] w fun e w'=>(∃s:ByteArray,e=.returned (.string s)∧s.size=32)∧Ext w w':=by
 go_enter Tryz.func16,Tryz.ntmps16
 go_wp2_with fail
 go_loopw [3,4] (fun s3 s4 wr=>∃(t:Nat) (s:ByteArray),t≤32∧s4=.int .i64 (t:Int)∧s3=.string s∧s.size=t∧Ext w wr) (fun _ x _=>32-(intOf x).toNat)
 case atStart=>exact⟨0,_,by omega,rfl,rfl,rfl,Ext.refl _⟩
 case round =>
  obtain⟨t,s,ht,rfl,rfl,hs,hE⟩:=hrel;have E8:=hid hE;have HS:=hid hs;clear hE hs;obtain⟨wo,rfl⟩:∃x:World,x=wr:=⟨_,rfl⟩
  by_cases hlt:t<32
  ·obtain⟨B,hB⟩:∃B,B=wrap64 (65+(wrap64 (wrap64 (7*x)+(t:Int))).tmod 60) % 256:=⟨_,rfl⟩
   have hrd:Rd (wo.alloc (.cells #[.int .u8 B] 5)) (wo.alloc (.cells #[.int .u8 B] 5)).heap.size (some ⟨wo.heap.size,0,none⟩) 1 (u8s [B]):=(Blk.fresh wo 5 [.int .u8 B]).rd rfl;have hcv:=run_toStr (P:=Tryz.prog) Tryz.underlying23 Tryz.underlying5 Tryz.underlying9 hrd 1 (sg_nil _ _ hrd);rw[hB] at hcv;obtain⟨Y,hY⟩:∃Y,Y=strOf [wrap64 (65+(wrap64 (wrap64 (7*x)+(t:Int))).tmod 60) % 256]:=⟨_,rfl⟩
   rw[←hY] at hcv;have hy1:Y.size=1:=by rw[hY,strOf_size];rfl
   have hs2:s.size≤32:=by have:=HS.out;omega
   have HTN:Hid (t+1≤32):=hid hlt;have HSY:Hid ((s++Y).size=t+1):=hid (by rw[ByteArray.size_append,HS.out,hy1])
   clear hB hY hrd;go_wp2_with fail
   exact⟨⟨t+1,s++Y,HTN.out,by go_num,rfl,HSY.out,E8.out.alloc _⟩,by have:=HTN.out;simp [intOf];omega⟩
  ·obtain rfl:t=32:=by omega
   go_wp2_with fail
   go_ret
   exact⟨⟨s,rfl,HS.out⟩,E8.out⟩
theorem valid_no (H:Int)(w:World)(h0:H<0) :
  Calls Tryz.prog 53 #[.int .i64 H] w fun e w'=>e=.returned (.bool false)∧w=w':=by
 have h1:decide ((0:Int)≤H)=false:=decide_eq_false (by omega)
 go_enter Tryz.func53,Tryz.ntmps53
 go_wp2_with fail
 go_ret
 simp [show ¬(0≤H) by omega]
theorem public_neg (seed:ByteArray)(H:Int)(w:World)(hs:seed.size=32)(h0:H<0) :
  Calls Tryz.prog 46 #[.string seed,.int .i64 H] w fun e w'=>e=.returned (.tuple #[.agg (u8s (List.replicate 16 0)).toArray,.int .i64 1])∧Ext w w':=by
 have HVN:=hid (fun W=>valid_no H W h0)
 have zz:∀W,(zeroValue 26).run Tryz.prog W=.ok (.agg (u8s (List.replicate 16 0)).toArray) W:=fun W=>by kernel_rfl
 obtain⟨Z,hZ⟩:∃Z,Z=u8s (List.replicate 16 0):=⟨_,rfl⟩
 have HZL:Hid (Z.length=16):=hid (by rw[hZ];rfl)
 have HZ1:Hid (∀v∈Z,v.oneCell'=true):=hid (by rw[hZ];exact u8s_one _)
 rw[←hZ] at zz⊢;clear hZ h0;go_enter Tryz.func46,Tryz.ntmps46
 go_upto_region 1 with fail
 obtain⟨w2,hw2⟩:∃x,x=w.alloc (.cells Z.toArray 26):=⟨_,rfl⟩
 change Code.wp _ _ _ _ (w.alloc (.cells Z.toArray 26))
 rw[←hw2];have E2:Hid (Ext w w2):=hid (by rw[hw2];exact (Ext.refl w).alloc _)
 have BZ:Hid (Blk w2 w.heap.size 26 Z):=hid (by rw[hw2];exact Blk.fresh' _ _ _ _ _ rfl rfl)
 clear hw2
 go_wp2_with ((first
  | (go_at_call 53;(with_reducible refine (HVN.out w2).mono ?_);rintro e w3 ⟨rfl,rfl⟩)
  | (refine wpList_store_blk rfl 26 (.tmp 4) (.tmp 14) (by rfl) w.heap.size Z rfl rfl BZ.out (dg_info.trans (congrArg some HZL.out.symm)) rfl HZ1.out ?_;intro w9 hw9 hb9)))
 exact bodyPost_ret (results_blk_tmp Tryz.results46 _ _ w.heap.size 26 Z _ rfl hb9 Tryz.underlying26 rfl (dg_info.trans (congrArg some HZL.out.symm))) rfl ⟨rfl,by rw[hw9.out];exact E2.out.setRow (Nat.le_refl _) _⟩
def pubC (K:List Int)(H:Int):List Value:=u8s K++[.int .i64 H]
theorem build_pub (d:List Int)(H:Int)(h:d.length=16):Tryz.prog.built 56 [(0,.agg (u8s d).toArray),(1,.int .i64 H)]=some (pubC d H).toArray:=by
 obtain⟨x0,x1,x2,x3,x4,x5,x6,x7,x8,x9,xa,xb,xc,xd,xe,xf,rfl⟩:=list16 d h
 kernel_rfl
theorem build_pub0:Tryz.prog.built 56 []=some (pubC (List.replicate 16 0) 0).toArray:=by kernel_rfl
theorem pub_info:(Tryz.prog.info? 56).map (·.size)=some 17:=by kernel_rfl
theorem pubC_len (K:List Int)(H:Int)(h:K.length=16):(pubC K H).length=17:=by unfold pubC;rw[List.length_append,u8s_len,h];rfl
theorem pubC_one (K:List Int)(H:Int):∀v∈pubC K H,v.oneCell'=true:=fun v hv=>by
 rcases List.mem_append.1 hv with h|h
 ·exact u8s_one _ v h
 ·rw[List.mem_singleton.1 h];rfl
end
section
attribute [local go_sem ↓] wp_at_zero wp_at_succ
def keyC (seed:ByteArray)(H:Int):List Value:=[.string seed,.int .i64 H]
theorem kpublic_any (seed:ByteArray)(h:Nat)(w:World)(hs:seed.size=32)(h4:h≤4)(hK:KTab w) :
  Calls Tryz.prog 22 #[.agg (keyC seed (h:Int)).toArray] w fun e w'=>e=.returned (.tuple #[.agg (pubC (nodeV seed h 0) (h:Int)).toArray,.int .i64 0])∧Ext w w':=by
 have HPB:Hid (∀W,Ext w W→Calls Tryz.prog 46 #[.string seed,.int .i64 (h:Int)] W fun e w'=>e=.returned (.tuple #[.agg (u8s (nodeV seed h 0)).toArray,.int .i64 0])∧Ext W w'):=hid (fun W hW=>public_any seed h W hs (by omega) (hK.below hW))
 obtain⟨V,hV⟩:∃V,V=nodeV seed h 0:=⟨_,rfl⟩
 have HVL:Hid ((u8s V).length=16):=hid (by rw[hV,u8s_len];exact (nodeV_dig seed _ _).l)
 have HVD:Hid (V.length=16):=hid (by rw[←HVL.out,u8s_len])
 have HQL:Hid ((pubC V (h:Int)).length=17):=hid (pubC_len _ _ HVD.out);rw[←hV] at HPB⊢;clear hV hK hs;have hd4:decide (4<(h:Int))=false:=decide_eq_false (by omega)
 obtain⟨Z,hZ⟩:∃Z,Z=pubC (List.replicate 16 0) 0:=⟨_,rfl⟩
 have zz:∀W,(zeroValue 56).run Tryz.prog W=.ok (.agg (pubC (List.replicate 16 0) 0).toArray) W:=fun W=>by kernel_rfl
 have HZL:Hid (Z.length=17):=hid (by rw[hZ];rfl)
 have HZ1:Hid (∀v∈Z,v.oneCell'=true):=hid (by rw[hZ];exact pubC_one _ _)
 have HBP:Hid (Tryz.prog.built 56 []=some Z.toArray):=hid (by rw[hZ];exact build_pub0)
 rw[←hZ] at zz;clear hZ;go_enter Tryz.func22,Tryz.ntmps22
 go_upto_region 1 with fail
 obtain⟨w2,hw2⟩:∃x,x=(w.alloc (.cells (keyC seed (h:Int)).toArray 52)).alloc (.cells Z.toArray 56):=⟨_,rfl⟩
 change Code.wp _ _ _ _ ((w.alloc (.cells (keyC seed (h:Int)).toArray 52)).alloc (.cells Z.toArray 56))
 rw[←hw2];have E2:Hid (Ext w w2):=hid (by rw[hw2];exact ((Ext.refl w).alloc _).alloc _)
 have BK:Hid (Blk w2 w.heap.size 52 (keyC seed (h:Int))):=hid (by rw[hw2];exact (Blk.fresh' _ _ _ _ _ rfl rfl).alloc _)
 have BZ:Hid (Blk w2 (w.heap.size+1) 56 Z):=hid (by rw[hw2];exact Blk.fresh' _ _ _ _ _ rfl (by simp))
 clear hw2;have c0:w2.cell? ⟨w.heap.size,0,none⟩=some (.string seed):=BK.out.cell 0
 have c1:w2.cell? ⟨w.heap.size,1,none⟩=some (.int .i64 (h:Int)):=BK.out.cell 1
 go_wp2_with (first
  | (go_at_call 46;(with_reducible refine (HPB.out w2 E2.out).mono ?_);rintro e w3 ⟨rfl,hE3⟩;have E3:Hid (Ext w w3):=hid (E2.out.next hE3);have BZ3:=hid (BZ.out.ext hE3);have BK3:=hid (BK.out.ext hE3);clear hE3)
  | (refine wpList_store_fresh rfl 26 (.tmp 4) (.tmp 16) rfl _ w3.heap.size rfl (u8s (List.replicate 16 0)) (u8s V) 26 (by rfl) (by rfl) rfl (dg_info.trans (congrArg some HVL.out.symm)) (by rw[u8s_len,HVL.out];rfl) (u8s_one _) ?_;intro w7 hw7 hE7 hz7;have B7:=hid hw7;have E7:Hid (Ext w w7):=hid (E3.out.next hE7);have BZ7:=hid (BZ3.out.ext hE7);have d1:w7.cell? ⟨w.heap.size,1,none⟩=some (.int .i64 (h:Int)):=(BK3.out.ext hE7).cell 1;clear hw7 hE7 hz7)
  | (refine wpList_load_blk rfl 26 (.tmp 4) rfl w3.heap.size (by kernel_rfl) B7.out Tryz.underlying26 rfl (dg_info.trans (congrArg some HVL.out.symm)) ?_)
  | (refine wpList_build_eq (by rfl) 56 _ rfl _ (by kernel_rfl) _ (build_pub V (h:Int) HVD.out) ?_)
  | (refine wpList_store_blk rfl 56 (.tmp 2) (.tmp 25) (by rfl) (w.heap.size+1) (pubC V (h:Int)) (by kernel_rfl) rfl BZ7.out (pub_info.trans (congrArg some HQL.out.symm)) (HZL.out.trans HQL.out.symm) (pubC_one _ _) ?_;intro w9 hw9 hb9))
 exact bodyPost_ret (results_blk_tmp Tryz.results22 _ _ (w.heap.size+1) 56 (pubC V (h:Int)) _ rfl hb9 Tryz.underlying56 rfl (pub_info.trans (congrArg some HQL.out.symm))) rfl ⟨rfl,by rw[hw9.out];exact E7.out.setRow (Nat.le_succ _) _⟩
theorem kpublic_neg (seed:ByteArray)(H:Int)(w:World)(hs:seed.size=32)(hH:H<0) :
  Calls Tryz.prog 22 #[.agg (keyC seed H).toArray] w fun e w'=>e=.returned (.tuple #[.agg (pubC (List.replicate 16 0) 0).toArray,.int .i64 1])∧Ext w w':=by
 have HPB:Hid (∀W,Ext w W→Calls Tryz.prog 46 #[.string seed,.int .i64 H] W fun e w'=>e=.returned (.tuple #[.agg (u8s (List.replicate 16 0)).toArray,.int .i64 1])∧Ext W w'):=hid (fun W hW=>public_neg seed H W hs hH)
 obtain⟨V,hV⟩:∃V,V=List.replicate 16 (0:Int):=⟨_,rfl⟩
 have HVL:Hid ((u8s V).length=16):=hid (by rw[hV];rfl)
 rw[←hV] at HPB;clear hV hs;have hd4:decide (4<H)=false:=decide_eq_false (by omega)
 obtain⟨Z,hZ⟩:∃Z,Z=pubC (List.replicate 16 0) 0:=⟨_,rfl⟩
 have zz:∀W,(zeroValue 56).run Tryz.prog W=.ok (.agg (pubC (List.replicate 16 0) 0).toArray) W:=fun W=>by kernel_rfl
 have HZL:Hid (Z.length=17):=hid (by rw[hZ];rfl)
 have HZ1:Hid (∀v∈Z,v.oneCell'=true):=hid (by rw[hZ];exact pubC_one _ _)
 have HBP:Hid (Tryz.prog.built 56 []=some Z.toArray):=hid (by rw[hZ];exact build_pub0)
 rw[←hZ] at zz⊢;clear hZ;go_enter Tryz.func22,Tryz.ntmps22
 go_upto_region 1 with fail
 obtain⟨w2,hw2⟩:∃x,x=(w.alloc (.cells (keyC seed H).toArray 52)).alloc (.cells Z.toArray 56):=⟨_,rfl⟩
 change Code.wp _ _ _ _ ((w.alloc (.cells (keyC seed H).toArray 52)).alloc (.cells Z.toArray 56))
 rw[←hw2];have E2:Hid (Ext w w2):=hid (by rw[hw2];exact ((Ext.refl w).alloc _).alloc _)
 have BK:Hid (Blk w2 w.heap.size 52 (keyC seed H)):=hid (by rw[hw2];exact (Blk.fresh' _ _ _ _ _ rfl rfl).alloc _)
 have BZ:Hid (Blk w2 (w.heap.size+1) 56 Z):=hid (by rw[hw2];exact Blk.fresh' _ _ _ _ _ rfl (by simp))
 clear hw2;have c0:w2.cell? ⟨w.heap.size,0,none⟩=some (.string seed):=BK.out.cell 0
 have c1:w2.cell? ⟨w.heap.size,1,none⟩=some (.int .i64 H):=BK.out.cell 1
 go_wp2_with (first
  | (go_at_call 46;(with_reducible refine (HPB.out w2 E2.out).mono ?_);rintro e w3 ⟨rfl,hE3⟩;have E3:Hid (Ext w w3):=hid (E2.out.next hE3);have BZ3:=hid (BZ.out.ext hE3);have BK3:=hid (BK.out.ext hE3);clear hE3)
  | (refine wpList_store_fresh rfl 26 (.tmp 4) (.tmp 16) rfl _ w3.heap.size rfl (u8s (List.replicate 16 0)) (u8s V) 26 (by rfl) (by rfl) rfl (dg_info.trans (congrArg some HVL.out.symm)) (by rw[u8s_len,HVL.out];rfl) (u8s_one _) ?_;intro w7 hw7 hE7 hz7;have B7:=hid hw7;have E7:Hid (Ext w w7):=hid (E3.out.next hE7);have BZ7:=hid (BZ3.out.ext hE7);have d1:w7.cell? ⟨w.heap.size,1,none⟩=some (.int .i64 H):=(BK3.out.ext hE7).cell 1;clear hw7 hE7 hz7)
  | (refine wpList_load_blk rfl 26 (.tmp 4) rfl w3.heap.size (by kernel_rfl) B7.out Tryz.underlying26 rfl (dg_info.trans (congrArg some HVL.out.symm)) ?_)
  | (refine wpList_build_eq (by rfl) 56 _ rfl _ (by kernel_rfl) _ HBP.out ?_)
  | (refine wpList_store_blk rfl 56 (.tmp 2) (.tmp 20) (by rfl) (w.heap.size+1) (Z) (by kernel_rfl) rfl BZ7.out (pub_info.trans (congrArg some HZL.out.symm)) rfl HZ1.out ?_;intro w9 hw9 hb9))
 exact bodyPost_ret (results_blk_tmp Tryz.results22 _ _ (w.heap.size+1) 56 (Z) _ rfl hb9 Tryz.underlying56 rfl (pub_info.trans (congrArg some HZL.out.symm))) rfl ⟨rfl,by rw[hw9.out];exact E7.out.setRow (Nat.le_succ _) _⟩
theorem kpublic_big (seed:ByteArray)(H:Int)(w:World)(hH:4<H) :
  Calls Tryz.prog 22 #[.agg (keyC seed H).toArray] w fun e w'=>e=.returned (.tuple #[.agg (pubC (List.replicate 16 0) 0).toArray,.int .i64 1])∧Ext w w':=by
 have hd4:decide (4<H)=true:=decide_eq_true hH;obtain⟨Z,hZ⟩:∃Z,Z=pubC (List.replicate 16 0) 0:=⟨_,rfl⟩
 have zz:∀W,(zeroValue 56).run Tryz.prog W=.ok (.agg (pubC (List.replicate 16 0) 0).toArray) W:=fun W=>by kernel_rfl
 have HZL:Hid (Z.length=17):=hid (by rw[hZ];rfl)
 have HZ1:Hid (∀v∈Z,v.oneCell'=true):=hid (by rw[hZ];exact pubC_one _ _)
 have HBP:Hid (Tryz.prog.built 56 []=some Z.toArray):=hid (by rw[hZ];exact build_pub0)
 rw[←hZ] at zz⊢;clear hZ;go_enter Tryz.func22,Tryz.ntmps22
 go_upto_region 1 with fail
 obtain⟨w2,hw2⟩:∃x,x=(w.alloc (.cells (keyC seed H).toArray 52)).alloc (.cells Z.toArray 56):=⟨_,rfl⟩
 change Code.wp _ _ _ _ ((w.alloc (.cells (keyC seed H).toArray 52)).alloc (.cells Z.toArray 56))
 rw[←hw2];have E2:Hid (Ext w w2):=hid (by rw[hw2];exact ((Ext.refl w).alloc _).alloc _)
 have BK:Hid (Blk w2 w.heap.size 52 (keyC seed H)):=hid (by rw[hw2];exact (Blk.fresh' _ _ _ _ _ rfl rfl).alloc _)
 have BZ:Hid (Blk w2 (w.heap.size+1) 56 Z):=hid (by rw[hw2];exact Blk.fresh' _ _ _ _ _ rfl (by simp))
 clear hw2;have c0:w2.cell? ⟨w.heap.size,0,none⟩=some (.string seed):=BK.out.cell 0
 have c1:w2.cell? ⟨w.heap.size,1,none⟩=some (.int .i64 H):=BK.out.cell 1
 go_wp2_with (first
  | (refine wpList_build_eq (by rfl) 56 _ rfl _ (by kernel_rfl) _ HBP.out ?_)
  | (refine wpList_store_blk rfl 56 (.tmp 2) (.tmp 9) (by rfl) (w.heap.size+1) (Z) (by kernel_rfl) rfl BZ.out (pub_info.trans (congrArg some HZL.out.symm)) rfl HZ1.out ?_;intro w9 hw9 hb9))
 exact bodyPost_ret (results_blk_tmp Tryz.results22 _ _ (w.heap.size+1) 56 (Z) _ rfl hb9 Tryz.underlying56 rfl (pub_info.trans (congrArg some HZL.out.symm))) rfl ⟨rfl,by rw[hw9.out];exact E2.out.setRow (Nat.le_succ _) _⟩
end
section
attribute [local go_sem ↓] wp_at_zero wp_at_succ
def bare (r:Rev):Rev:={ r with sl:={ data:=#[] } }
theorem bareV {w:World}{r:Rev}{A:Option Addr}{n c:Nat}(h:RevV w r A n c):RevV w (bare r) A n c:=⟨h.row,h.le,h.cap,h.few,h.mean,h.mbyt⟩
theorem bareW {r:Rev}(h:RevW r):RevW (bare r):=⟨h.shop,h.seq,h.day,h.ops,by show (0:Nat)≤_;omega,h.many⟩
theorem revC_bare (r:Rev)(A:Option Addr)(n c:Nat)(h:r.mean.length=16):(revC r A n c).set 21 (.string { data:=#[] })=revC (bare r) A n c:=by
 obtain⟨s0,s1,s2,s3,s4,d,s5⟩:=r;obtain⟨x0,x1,x2,x3,x4,x5,x6,x7,x8,x9,xa,xb,xc,xd,xe,xf,rfl⟩:=list16 d h;rfl
def msgS (r:Rev):ByteArray:=strOf (encR (bare r))
theorem message_any (r:Rev)(A:Option Addr)(n c:Nat)(w:World)(hr:RevV w r A n c)(hw:RevW r) :
  Calls Tryz.prog 40 #[.agg (revC r A n c).toArray] w fun e w'=>e=.returned (.string (msgS r))∧Ext w w':=by
 have HR:=hid hr;have HCL:Hid ((revC r A n c).length=22):=hid (revC_len _ _ _ _ hr.mean);have HCK:Hid ((revC (bare r) A n c).length=22):=hid (revC_len _ _ _ _ hr.mean);have HSB:=hid (revC_bare r A n c hr.mean)
 have HEN:Hid (∀W,Ext w W→Calls Tryz.prog 31 #[.agg (revC (bare r) A n c).toArray] W fun e w'=>(∃A' k c',e=.returned (.slice A' k c')∧Rd w' w'.heap.size A' k (u8s (encR (bare r))))∧Ext W w'):=hid (fun W hW=>(encode_any (bare r) A n c W (bareV (hr.ext hW)) (bareW hw)).mono fun e w' hq=>by
  obtain⟨⟨A',c',he,ho⟩,hE⟩:=hq;exact⟨⟨A',_,c',he,Rd.of_own ho⟩,hE⟩)
 obtain⟨M,hM⟩:∃M,M=msgS r:=⟨_,rfl⟩
 have HM:Hid (M=strOf (encR (bare r))):=hid hM;rw[←hM];clear hM hr hw;go_enter Tryz.func40,Tryz.ntmps40
 go_upto_region 1 with fail
 obtain⟨w1,hw1⟩:∃x,x=w.alloc (.cells (revC r A n c).toArray 28):=⟨_,rfl⟩
 change Code.wp _ _ _ _ (w.alloc (.cells (revC r A n c).toArray 28))
 rw[←hw1];have E1:Hid (Ext w w1):=hid (by rw[hw1];exact (Ext.refl w).alloc _)
 have B1:Hid (Blk w1 w.heap.size 28 (revC r A n c)):=hid (by rw[hw1];exact Blk.fresh' _ _ _ _ _ rfl rfl)
 clear hw1;have fz:=B1.out.frozen 21;have cd:w1.cell? ⟨w.heap.size,21,none⟩=some (.string r.sl):=(B1.out.cell 21).trans (revC_21 _ _ _ _ HR.out.mean)
 go_upto_region 2 with fail
 obtain⟨w2,hw2⟩:∃x,x=w1.setCell ⟨w.heap.size,21,none⟩ (.string { data:=#[] }):=⟨_,rfl⟩
 change Code.wp _ _ _ _ (w1.setCell ⟨w.heap.size,21,none⟩ (.string { data:=#[] }))
 rw[←hw2];have B2:Hid (Blk w2 w.heap.size 28 (revC (bare r) A n c)):=hid (by rw[hw2,←HSB.out];exact B1.out.set 21 _)
 have E2:Hid (Ext w w2):=hid (by rw[hw2];exact E1.out.setCell (p:=⟨w.heap.size,21,none⟩) (Nat.le_refl _) _)
 clear hw2 fz cd
 go_wp2_with (first
  | (refine wpList_load_blk rfl 28 (.tmp 1) rfl w.heap.size (by kernel_rfl) B2.out Tryz.underlying28 rfl (info_rev.trans (congrArg some HCK.out.symm)) ?_)
  | (go_at_call 31;(with_reducible refine (HEN.out w2 E2.out).mono ?_);rintro e w3 ⟨⟨A3,k3,c3,rfl,hr3⟩,hE3⟩;have hcv:=run_toStr (P:=Tryz.prog) Tryz.underlying23 Tryz.underlying5 Tryz.underlying9 hr3 c3 (sg_nil _ _ hr3);rw[←HM.out] at hcv;have E3:Hid (Ext w w3):=hid (E2.out.next hE3);clear hE3 hr3))
 go_ret
 exact⟨rfl,E3.out⟩
theorem rmessage_any (r:Rev)(A:Option Addr)(n c:Nat)(w:World)(hr:RevV w r A n c)(hw:RevW r) :
  Calls Tryz.prog 26 #[.agg (revC r A n c).toArray] w fun e w'=>e=.returned (.string (msgS r))∧Ext w w':=by
 have HR:=hid hr;have HCL:Hid ((revC r A n c).length=22):=hid (revC_len _ _ _ _ hr.mean);have HCK:Hid ((revC (bare r) A n c).length=22):=hid (revC_len _ _ _ _ hr.mean);have HSB:=hid (revC_bare r A n c hr.mean)
 have HEN:Hid (∀W,Ext w W→Calls Tryz.prog 35 #[.agg (revC (bare r) A n c).toArray] W fun e w'=>(∃A' k c',e=.returned (.slice A' k c')∧Rd w' w'.heap.size A' k (u8s (encR (bare r))))∧Ext W w'):=hid (fun W hW=>(bytes_any (bare r) A n c W (bareV (hr.ext hW)) (bareW hw)).mono fun e w' hq=>by
  obtain⟨⟨A',c',he,ho⟩,hE⟩:=hq;exact⟨⟨A',_,c',he,Rd.of_own ho⟩,hE⟩)
 obtain⟨M,hM⟩:∃M,M=msgS r:=⟨_,rfl⟩
 have HM:Hid (M=strOf (encR (bare r))):=hid hM;rw[←hM];clear hM hr hw;go_enter Tryz.func26,Tryz.ntmps26
 go_upto_region 1 with fail
 obtain⟨w1,hw1⟩:∃x,x=w.alloc (.cells (revC r A n c).toArray 28):=⟨_,rfl⟩
 change Code.wp _ _ _ _ (w.alloc (.cells (revC r A n c).toArray 28))
 rw[←hw1];have E1:Hid (Ext w w1):=hid (by rw[hw1];exact (Ext.refl w).alloc _)
 have B1:Hid (Blk w1 w.heap.size 28 (revC r A n c)):=hid (by rw[hw1];exact Blk.fresh' _ _ _ _ _ rfl rfl)
 clear hw1;have fz:=B1.out.frozen 21;have cd:w1.cell? ⟨w.heap.size,21,none⟩=some (.string r.sl):=(B1.out.cell 21).trans (revC_21 _ _ _ _ HR.out.mean)
 go_upto_region 2 with fail
 obtain⟨w2,hw2⟩:∃x,x=w1.setCell ⟨w.heap.size,21,none⟩ (.string { data:=#[] }):=⟨_,rfl⟩
 change Code.wp _ _ _ _ (w1.setCell ⟨w.heap.size,21,none⟩ (.string { data:=#[] }))
 rw[←hw2];have B2:Hid (Blk w2 w.heap.size 28 (revC (bare r) A n c)):=hid (by rw[hw2,←HSB.out];exact B1.out.set 21 _)
 have E2:Hid (Ext w w2):=hid (by rw[hw2];exact E1.out.setCell (p:=⟨w.heap.size,21,none⟩) (Nat.le_refl _) _)
 clear hw2 fz cd
 go_wp2_with (first
  | (refine wpList_load_blk rfl 28 (.tmp 1) rfl w.heap.size (by kernel_rfl) B2.out Tryz.underlying28 rfl (info_rev.trans (congrArg some HCK.out.symm)) ?_)
  | (go_at_call 35;(with_reducible refine (HEN.out w2 E2.out).mono ?_);rintro e w3 ⟨⟨A3,k3,c3,rfl,hr3⟩,hE3⟩;have hcv:=run_toStr (P:=Tryz.prog) Tryz.underlying23 Tryz.underlying5 Tryz.underlying9 hr3 c3 (sg_nil _ _ hr3);rw[←HM.out] at hcv;have E3:Hid (Ext w w3):=hid (E2.out.next hE3);clear hE3 hr3))
 go_ret
 exact⟨rfl,E3.out⟩
end
section
attribute [local go_sem ↓] wp_at_zero wp_at_succ
def sealed (r:Rev)(s:ByteArray):Rev:={ r with sl:=s }
theorem revC_sealed (r:Rev)(s:ByteArray)(A:Option Addr)(n c:Nat)(h:r.mean.length=16):(revC r A n c).set 21 (.string s)=revC (sealed r s) A n c:=by
 obtain⟨s0,s1,s2,s3,s4,d,s5⟩:=r;obtain⟨x0,x1,x2,x3,x4,x5,x6,x7,x8,x9,xa,xb,xc,xd,xe,xf,rfl⟩:=list16 d h;rfl
end
end Go.Proofs.YtjeecfjeooehhaaGreatDoor