/- ReviewSealed: for all arguments the law answers true and leaves them as they were. No condition (the tables are laid). -/
import Derived.Test.YtjeecfjeooehhaaGreatDoorM17
import Derived.Test.YtjeecfjeooehhaaGreatDoorM33
import Derived.Test.YtjeecfjeooehhaaGreatDoorM34
import Derived.Test.YtjeecfjeooehhaaGreatDoorM45
import Derived.Test.YtjeecfjeooehhaaGreatDoorM46
set_option linter.unusedSimpArgs false
set_option linter.unusedVariables false
set_option maxHeartbeats 16000000
set_option maxRecDepth 100000
namespace Go.Proofs.YtjeecfjeooehhaaGreatDoor
open Go.RowKit
open Lib (hid)
section
open Go.RowKit Go.WideShapes Go.ChangeShapes
theorem revOf_W3 (l:List Int):RevW (revOf l):=revW_of (by unfold encE;rw[if_pos (revOf_valid l)];rfl)
theorem pub_winfo3:(Tryz.prog.info? 56).map (fun i=>(i.zero,i.size,i.bytes))=some (some (.agg (pubC (List.replicate 16 0) 0).toArray),17,24):=by kernel_rfl
theorem pubsC_snoc3 (L:List (List Int×Int))(d:List Int)(h:Int):pubsC (L++[(d,h)])=pubsC L++pubC d h:=by
 unfold pubsC;rw[List.flatMap_append];simp
theorem build_key (seed:ByteArray):Tryz.prog.built 52 [(0,.string seed),(1,.int .i64 2)]=some (keyC seed 2).toArray:=by kernel_rfl
theorem keyC_one (seed:ByteArray)(H:Int):∀v∈keyC seed H,v.oneCell'=true:=fun v hv=>by
 simp only[keyC,List.mem_cons,List.not_mem_nil,or_false] at hv
 rcases hv with rfl|rfl<;>rfl
theorem pub_front (K:List Int)(H:Int)(h:K.length=16):u8s K=((pubC K H).drop 0).take (u8s K).length:=by
 unfold pubC;rw[List.drop_zero,List.take_left]
theorem put_seg {a b c v:List Value}{q:Nat}(ha:a.length=q)(hb:b.length=v.length):putR (a++b++c) q v=a++v++c:=by
 subst ha;have e1:(a++b++c).take a.length=a:=by rw[List.append_assoc,List.take_left]
 have e2:(a++b++c).drop (a.length+v.length)=c:=by rw[←hb,←List.length_append,List.drop_left]
 unfold putR;rw[e1,e2]
theorem rows_front {w:World}{g n:Nat}{t:TypeId}{xs tl:List Value}(hb:Blk w g t (xs++tl))(hl:xs.length=n*17):RdN w w.heap.size 17 (some ⟨g,0,none⟩) n xs :=
 ⟨hl,fun _=>⟨g,0,rfl,hb.lt,fun j u hu=>by
  rw[Nat.zero_add,hb.cell,List.getElem?_append_left ((List.getElem?_eq_some_iff.1 hu).1)]
  exact hu⟩⟩
theorem last_of {α:Type}{L:List α}{k:Nat}(h:L.length=k+1):∃L1 y,L=L1++[y]∧L1.length=k:=by
 have hne:L≠[]:=fun e=>by rw[e] at h;simp at h
 exact⟨L.dropLast,L.getLast hne,(List.dropLast_concat_getLast hne).symm,by rw[List.length_dropLast,h];rfl⟩
def opM:OpA:=opF 0 0 0 0 0 0 0 0 0 ⟨#[109]⟩ ⟨0,⟨0,0,0⟩⟩ ⟨0,⟨0,0,0⟩⟩ 0 0 0 0 0
def patM (k q:Int)(s:ByteArray):PatA:=oneP k q 1 0 opM s
theorem build_mod:Tryz.prog.built 76 [(0,.int .i64 0),(5,.string ⟨#[109]⟩)]=some ([.int .i64 0,.int .i64 0,.int .i64 0,.int .i64 0,.int .i64 0,.int .i64 0,.int .i64 0,.int .i64 0,.int .i64 0,.string ⟨#[109]⟩,.int .i64 0,.int .i64 0,.int .i64 0,.int .i64 0,.slice none 0 0,.int .i64 0,.int .i64 0,.int .i64 0,.int .i64 0,.int .i64 0,.int .i64 0,.int .i64 0,.int .i64 0,.int .i64 0,.slice none 0 0,.slice none 0 0,.slice none 0 0,.slice none 0 0]:List Value).toArray:=by kernel_rfl
theorem build_patm (s q:Int)(A:Option Addr)(n c:Nat):Tryz.prog.built 42 [(0,.int .i64 s),(1,.int .i64 q),(2,.int .i64 1),(5,.slice A n c)]=some ([.int .i64 s,.int .i64 q,.int .i64 1,.slice none 0 0,.int .i64 0,.slice A n c,.string ⟨#[]⟩]:List Value).toArray:=by kernel_rfl
theorem patM_all:∀k:Fin 3,∀q:Fin 4,validP (patM (k.val:Int) ((q.val+1:Nat):Int) ⟨#[]⟩)=0∧(encP (patM (k.val:Int) ((q.val+1:Nat):Int) ⟨#[]⟩)).length≤1000∧(msgP (patM (k.val:Int) ((q.val+1:Nat):Int) ⟨#[]⟩)).length≤1000:=by decide +kernel
theorem patM_ok (k b:Nat)(hk:k<3)(hb:b<4):validP (patM (k:Int) ((b+1:Nat):Int) ⟨#[]⟩)=0∧(encP (patM (k:Int) ((b+1:Nat):Int) ⟨#[]⟩)).length≤1000∧(msgP (patM (k:Int) ((b+1:Nat):Int) ⟨#[]⟩)).length≤1000:=patM_all ⟨k,hk⟩ ⟨b,hb⟩
theorem z64:i64 0:=⟨by decide,by decide⟩
theorem o64:i64 1:=⟨by decide,by decide⟩
theorem opM_W:OpW opM:=⟨⟨z64,z64,z64⟩,⟨z64,z64,z64⟩,⟨z64,z64,z64⟩,(by decide),fun x hx=>by
  rw[List.mem_singleton.1 hx];exact⟨z64,z64,z64,z64⟩,⟨⟨z64,z64,z64,z64,z64⟩,fun x hx=>by
   rw[List.mem_singleton.1 hx];exact⟨z64,z64,z64,z64⟩,fun y hy=>(by cases hy),fun y hy=>(by cases hy)⟩,fun y hy=>(by cases hy)⟩
theorem patM_W (k q:Int)(s:ByteArray)(hk:i64 k)(hq:i64 q)(hs:s.size≤1000000)(hl:(encP (patM k q s)).length≤1000000000):PatW (patM k q s):=⟨⟨hk,hq,o64,z64⟩,fun x hx=>(by cases hx),fun y hy=>by rw[List.mem_singleton.1 hy];exact opM_W,hs,hl⟩
section
attribute [local go_sem ↓] wp_at_zero wp_at_succ
theorem walk_sealed (l:List Int)(A:Option Addr)(n c:Nat)(ot s0:Int)(w:World)(hl:Rd w w.heap.size A n (l.map (Value.int .i64)))(hwf:∀x∈l,-9223372036854775808≤x∧x≤9223372036854775807)(ho:i64 ot)(hs0:i64 s0)(hK:KTab w)(hT:RTab w)(hC:CTab w)(hU:STab w) :
  Calls Tryz.prog 5 #[.slice A n c,.int .i64 ot,.int .i64 s0] w fun e w'=>e=.returned (.bool true)∧Ext w w':=by
 obtain⟨i0,hi,hz0,hz1,hz2⟩:=info_parts pub_winfo3;have HRV:=hid (review_far l A n c w hl hwf);have HWW:Hid (RevW (revOf l)):=hid (revOf_W3 l);have HVE:Hid (validE (revOf l)=0):=hid (revOf_valid l);obtain⟨ks,hks⟩:∃k:Nat,(k:Int)=(revOf l).shop:=⟨(revOf l).shop.toNat,Int.toNat_of_nonneg (atI_bd l 0 3 (by decide)).1⟩
 obtain⟨qs,hqs⟩:∃k:Nat,(k:Int)=(revOf l).seq:=⟨(revOf l).seq.toNat,Int.toNat_of_nonneg (by have:=(atI_bd l 1 4 (by decide)).1;show 0≤1+atI l 1 4;omega)⟩
 have hk3:ks<3:=by have:=(atI_bd l 0 3 (by decide)).2;have h:(revOf l).shop=atI l 0 3:=rfl;omega
 have hq14:1≤qs∧qs≤4:=by have h1:=atI_bd l 1 4 (by decide);have h:(revOf l).seq=1+atI l 1 4:=rfl;omega
 obtain⟨r,hr⟩:∃r,r=revOf l:=⟨_,rfl⟩
 have HSL:Hid (r.sl.size≤1000000):=hid (by rw[hr];exact Nat.zero_le _)
 rw[←hr] at HRV HWW HVE hks hqs;have HKS:Hid (r.shop=(ks:Int)):=hid hks.symm;have HQS:Hid (r.seq=(qs:Int)):=hid hqs.symm;obtain⟨hq1,hq4⟩:=hq14;have HO:=hid ho;have HS0:=hid hs0;have HK:=hid hK;have HT:=hid hT;have HC:=hid hC;have HU:=hid hU;have hk9:=aroI_bd ot 9 (by decide)
 obtain⟨a9,ha9⟩:∃a:Nat,(a:Int)=aroI ot 9:=⟨(aroI ot 9).toNat,Int.toNat_of_nonneg hk9.1⟩
 have HA9:Hid (∀W,Calls Tryz.prog 12 #[.int .i64 ot,.int .i64 9] W fun e w'=>e=.returned (.int .i64 (a9:Int))∧W=w'):=hid (fun W=>by rw[ha9];exact around_any ot 9 W ho.1 ho.2 (by decide) (by decide))
 have ha99:a9<9:=by omega
 have hk4:=aroI_bd s0 4 (by decide)
 obtain⟨b4,hb4⟩:∃a:Nat,(a:Int)=aroI s0 4:=⟨(aroI s0 4).toNat,Int.toNat_of_nonneg hk4.1⟩
 have HB4:Hid (∀W,Calls Tryz.prog 12 #[.int .i64 s0,.int .i64 4] W fun e w'=>e=.returned (.int .i64 (b4:Int))∧W=w'):=hid (fun W=>by rw[hb4];exact around_any s0 4 W hs0.1 hs0.2 (by decide) (by decide))
 have hb44:b4<4:=by omega
 clear hl hwf hr hks hqs ho hs0 hK hT hC hU hk9 ha9 hk4 hb4;have zz:∀W,(zeroValue 28).run Tryz.prog W=.ok (.agg Z0.toArray) W:=fun W=>by kernel_rfl
 have zp:=zero_pat;have zpu:∀W,(zeroValue 56).run Tryz.prog W=.ok (.agg (pubC (List.replicate 16 0) 0).toArray) W:=fun W=>by kernel_rfl
 have zk:∀W,(zeroValue 52).run Tryz.prog W=.ok (.agg (keyC ⟨#[]⟩ 0).toArray) W:=fun W=>by kernel_rfl
 have HSD:Hid (∀W,Calls Tryz.prog 16 #[.int .i64 (ks:Int)] W fun e w'=>(∃s:ByteArray,e=.returned (.string s)∧s.size=32)∧Ext W w'):=hid (fun W=>rseed_any (ks:Int) W ⟨by omega,by omega⟩)
 go_enter Tryz.func5,Tryz.ntmps5
 go_upto_region 2 with (first
  | (go_at_call 6;(with_reducible refine HRV.out.mono ?_);rintro e w1 ⟨⟨A1,n1,c1,rfl,hv1,_⟩,hE1⟩;have V1:=hid hv1;have E1:=hid hE1;have L1:Hid ((revC r A1 n1 c1).length=22):=hid (revC_len _ _ _ _ hv1.mean);clear hv1 hE1)
  | (refine wpList_store_freshw rfl 28 (.tmp 7) (.tmp 25) rfl w1.heap.size rfl Z0 (revC r A1 n1 c1) 28 (by kernel_rfl) (by kernel_rfl) (info_rev.trans (congrArg some L1.out.symm)) (Eq.trans (b:=22) rfl L1.out.symm) (revC_one _ _ _ _) ?_;intro w2 hw2 hE2 hz2;have B2:=hid hw2;have V2:=hid (RevV.ext V1.out hE2);have E2:=hid (E1.out.next hE2);clear hw2 hE2 hz2))
 obtain⟨g7,hg7⟩:∃g,g=w1.heap.size:=⟨_,rfl⟩
 rw[←hg7] at B2⊢;have HG7:Hid (w.heap.size≤g7):=hid (by rw[hg7];exact E1.out.size)
 clear hg7 V1 E1 HRV;have c0:w2.cell? ⟨g7,0,none⟩=some (.int .i64 (ks:Int)):=by rw[←HKS.out];exact B2.out.cell 0
 go_upto_region 3 with (go_at_call 16;(with_reducible refine (HSD.out _).mono ?_);rintro e w3 ⟨⟨seed,rfl,hsd⟩,hE3⟩;have SD:=hid hsd;have B3:=hid (B2.out.ext hE3);have V3:=hid (RevV.ext V2.out hE3);have E3:=hid (E2.out.next hE3);clear hsd hE3)
 clear c0 B2 V2 E2 HSD;obtain⟨KD,hKD⟩:∃d,d=nodeV seed 2 0:=⟨_,rfl⟩
 have HKD:Hid (Dig KD):=hid (by rw[hKD];exact nodeV_dig _ _ _)
 obtain⟨Q0,hQ0⟩:∃q,q=pubC KD 2:=⟨_,rfl⟩
 have HQ0:Hid (Q0=pubC KD 2):=hid hQ0;have HQL:Hid (Q0.length=17):=hid (by rw[hQ0];exact pubC_len _ _ HKD.out.l)
 have HQ1:Hid (∀v∈Q0,v.oneCell'=true):=hid (by rw[hQ0];exact pubC_one _ _)
 obtain⟨S,hS⟩:∃s,s=strOf (signL seed 2 (4-qs) (msgS r)):=⟨_,rfl⟩
 have HSZ:Hid (S.size≤1200):=hid (by rw[hS];exact signL_le seed 2 _ _ (by decide) (by omega))
 have HVS:Hid (verV KD 2 (msgS r) S=(((4-qs:Nat):Int),0)):=hid (by rw[hKD,hS];exact verV_sign seed (msgS r) 2 (4-qs) (by show 4-qs<4;omega) (by decide))
 have HS1:Hid (∀W A2 n2 c2,Ext w W→RevV W r A2 n2 c2→Calls Tryz.prog 17 #[.agg (keyC seed 2).toArray,.agg (revC r A2 n2 c2).toArray] W fun e w'=>(∃A' n' c',e=.returned (.tuple #[.agg (revC (sealed r S) A' n' c').toArray,.int .i64 0])∧RevV w' (sealed r S) A' n' c')∧Ext W w'):=hid (fun W A2 n2 c2 hW hv=>by
  have hsg:=sig_all seed 2 r A2 n2 c2 W SD.out hv HWW.out (HK.out.below hW)
  have h1:sigE 2 r=0:=by
   unfold sigE;rw[if_neg (by rw[HVE.out];decide),if_neg (by decide),if_neg (by rw[HQS.out];show ¬((4:Nat):Int)<(qs:Int);omega)]
  have h2:sigR seed 2 r=sealed r S:=by
   rw[sigR_ok h1,hS,HQS.out];rfl
  rw[h1,h2] at hsg;exact hsg.mono fun e w' ⟨⟨A',n',c',h3,h4,_⟩,h5⟩=>⟨⟨A',n',c',h3,h4⟩,h5⟩)
 have HP1:Hid (∀W,Ext w W→Calls Tryz.prog 22 #[.agg (keyC seed 2).toArray] W fun e w'=>e=.returned (.tuple #[.agg Q0.toArray,.int .i64 0])∧Ext W w'):=hid (fun W hW=>by
  rw[hQ0,hKD];exact kpublic_any seed 2 W SD.out (by decide) (HK.out.below hW))
 have HX:Hid (validE (sealed r S)=0∧RevW (sealed r S)∧msgS (sealed r S)=msgS r∧sealed (sealed r S) r.sl=r∧(sealed r S).seq=(qs:Int)∧(sealed r S).shop=(ks:Int)∧(sealed r S).sl=S):=hid ⟨by rw[←HVE.out];rfl,⟨HWW.out.shop,HWW.out.seq,HWW.out.day,HWW.out.ops,Nat.le_trans HSZ.out (by decide),HWW.out.many⟩,rfl,by cases r;rfl,HQS.out,HKS.out,rfl⟩
 obtain⟨x,hx⟩:∃x,x=sealed r S:=⟨_,rfl⟩
 have HXX:=hid hx;rw[←hx] at HS1 HX;clear hQ0 hS hx;have HKDE:=hid hKD;clear hKD
 go_upto_region 4 with (first
  | (refine wpList_build_eq (by rfl) 52 _ rfl _ (by kernel_rfl) _ (build_key seed) ?_)
  | (refine wpList_store_freshw rfl 52 (.tmp 9) (.tmp 30) rfl w3.heap.size rfl (keyC ⟨#[]⟩ 0) (keyC seed 2) 52 (by kernel_rfl) (by kernel_rfl) (key_info.trans rfl) rfl (keyC_one _ _) ?_;intro w4 hw4 hE4 hz4;have BK:=hid hw4;have B4:=hid (B3.out.ext hE4);have V4:=hid (RevV.ext V3.out hE4);have E4:=hid (E3.out.next hE4);clear hw4 hE4 hz4))
 obtain⟨g9,hg9⟩:∃g,g=w3.heap.size:=⟨_,rfl⟩
 rw[←hg9] at BK⊢;clear hg9 B3 V3 E3
 go_upto_region 5 with (first
  | (refine wpList_load_blk rfl 52 (.tmp 9) rfl g9 (by kernel_rfl) BK.out Tryz.underlying52 rfl (key_info.trans rfl) ?_)
  | (refine wpList_load_blk rfl 28 (.tmp 7) rfl g7 (by kernel_rfl) B4.out Tryz.underlying28 rfl (info_rev.trans (congrArg some L1.out.symm)) ?_)
  | (go_at_call 17;(with_reducible refine (HS1.out w4 _ _ _ E4.out V4.out).mono ?_);rintro e w5 ⟨⟨A2,n2,c2,rfl,hv5⟩,hE5⟩;have VX5:=hid hv5;have LX:Hid ((revC x A2 n2 c2).length=22):=hid (revC_len _ _ _ _ hv5.mean);have BK5:=hid (BK.out.ext hE5);have B5:=hid (B4.out.ext hE5);have V5:=hid (RevV.ext V4.out hE5);have E5:=hid (E4.out.next hE5);clear hv5 hE5)
  | (refine wpList_store_freshw rfl 28 (.tmp 10) (.tmp 35) rfl w5.heap.size rfl Z0 (revC x A2 n2 c2) 28 (by kernel_rfl) (by kernel_rfl) (info_rev.trans (congrArg some LX.out.symm)) (Eq.trans (b:=22) rfl LX.out.symm) (revC_one _ _ _ _) ?_;intro w6 hw6 hE6 hz6;have BX:=hid hw6;have VX6:=hid (RevV.ext VX5.out hE6);have BK6:=hid (BK5.out.ext hE6);have B6:=hid (B5.out.ext hE6);have V6:=hid (RevV.ext V5.out hE6);have E6:=hid (E5.out.next hE6);clear hw6 hE6 hz6))
 obtain⟨g10,hg10⟩:∃g,g=w5.heap.size:=⟨_,rfl⟩
 rw[←hg10] at BX⊢;clear hg10 B4 V4 E4 BK BK5 B5 V5 E5 VX5 HS1
 go_upto_region 6 with (first
  | (refine wpList_load_blk rfl 52 (.tmp 9) rfl g9 (by kernel_rfl) BK6.out Tryz.underlying52 rfl (key_info.trans rfl) ?_)
  | (go_at_call 22;(with_reducible refine (HP1.out w6 E6.out).mono ?_);rintro e w7 ⟨rfl,hE7⟩;have BX7:=hid (BX.out.ext hE7);have VX7:=hid (RevV.ext VX6.out hE7);have BK7:=hid (BK6.out.ext hE7);have B7:=hid (B6.out.ext hE7);have V7:=hid (RevV.ext V6.out hE7);have E7:=hid (E6.out.next hE7);clear hE7)
  | (refine wpList_store_freshw rfl 56 (.tmp 12) (.tmp 40) rfl w7.heap.size rfl (pubC (List.replicate 16 0) 0) Q0 56 (by kernel_rfl) (by kernel_rfl) (pub_info.trans (congrArg some HQL.out.symm)) (Eq.trans (b:=17) rfl HQL.out.symm) HQ1.out ?_;intro w8 hw8 hE8 hz8;have BQ8:=hid hw8;have BX8:=hid (BX7.out.ext hE8);have VX8:=hid (RevV.ext VX7.out hE8);have BK8:=hid (BK7.out.ext hE8);have B8:=hid (B7.out.ext hE8);have V8:=hid (RevV.ext V7.out hE8);have E8:=hid (E7.out.next hE8);clear hw8 hE8 hz8))
 obtain⟨g12,hg12⟩:∃g,g=w7.heap.size:=⟨_,rfl⟩
 rw[←hg12] at BQ8⊢;clear hg12 BK6 B6 V6 E6 BX VX6 BX7 VX7 BK7 B7 V7 E7 HP1
 go_upto_region 7 with (first
  | (refine wpList_load_blk rfl 28 (.tmp 10) rfl g10 (by kernel_rfl) BX8.out Tryz.underlying28 rfl (info_rev.trans (congrArg some LX.out.symm)) ?_)
  | (refine wpList_store_freshw rfl 28 (.tmp 14) (.tmp 42) rfl w8.heap.size rfl Z0 (revC x A2 n2 c2) 28 (by kernel_rfl) (by kernel_rfl) (info_rev.trans (congrArg some LX.out.symm)) (Eq.trans (b:=22) rfl LX.out.symm) (revC_one _ _ _ _) ?_;intro w9 hw9 hE9 hz9;have BY9:=hid hw9;have BQ9:=hid (BQ8.out.ext hE9);have BX9:=hid (BX8.out.ext hE9);have VX9:=hid (RevV.ext VX8.out hE9);have BK9:=hid (BK8.out.ext hE9);have B9:=hid (B8.out.ext hE9);have V9:=hid (RevV.ext V8.out hE9);have E9:=hid (E8.out.next hE9);have EF9:=hid hE9;clear hw9 hE9 hz9))
 obtain⟨g14,hg14⟩:∃g,g=w8.heap.size:=⟨_,rfl⟩
 have HL8:Hid (g7<g14∧g9<g14∧g10<g14∧g12<g14∧w.heap.size≤g14):=hid (by rw[hg14];exact⟨B8.out.lt,BK8.out.lt,BX8.out.lt,BQ8.out.lt,E8.out.size⟩)
 rw[←hg14] at BY9⊢;have HG14:=hid hg14;clear hg14;have VR8:=hid V8.out;have VXX8:=hid VX8.out;clear B8 V8 BQ8 BX8 VX8 BK8;have c21:w9.cell? ⟨g7,21,none⟩=some (.string r.sl):=(B9.out.cell 21).trans (revC_21 _ _ _ _ V9.out.mean)
 have d21:w9.cell? ⟨g14,21,none⟩=some (.string x.sl):=(BY9.out.cell 21).trans (revC_21 _ _ _ _ VX9.out.mean)
 have fz:=BY9.out.frozen 21;go_upto_region 8 with fail
 obtain⟨w10,hw10⟩:∃u,u=w9.setCell ⟨g14,21,none⟩ (.string r.sl):=⟨_,rfl⟩
 change Code.wp _ _ _ _ (w9.setCell ⟨g14,21,none⟩ (.string r.sl))
 rw[←hw10];have K10:Hid (Kept (fun b=>b=g14) w9 w10):=hid (by rw[hw10];exact Kept.setCell (F:=fun b=>b=g14) (p:=⟨g14,21,none⟩) w9 rfl _)
 have EE:Hid (Ext w8 w10):=hid (ext_kept EF9.out K10.out (fun b hb=>by rw[hb,HG14.out];exact Nat.le_refl _))
 have BY:Hid (Blk w10 g14 28 (revC r A2 n2 c2)):=hid (by
  have h:=BY9.out.set 21 (.string r.sl);rw[revC_sealed x r.sl A2 n2 c2 VX9.out.mean,HXX.out] at h;have h2:=HX.out.2.2.2.1;rw[HXX.out] at h2;rw[h2] at h;rw[hw10];exact h)
 have BQ:Hid (Blk w10 g12 56 Q0):=hid (K10.out.blk BQ9.out (by have:=HL8.out;omega))
 have BX:Hid (Blk w10 g10 28 (revC x A2 n2 c2)):=hid (K10.out.blk BX9.out (by have:=HL8.out;omega))
 have BK:Hid (Blk w10 g9 52 (keyC seed 2)):=hid (K10.out.blk BK9.out (by have:=HL8.out;omega))
 have BR:Hid (Blk w10 g7 28 (revC r A1 n1 c1)):=hid (K10.out.blk B9.out (by have:=HL8.out;omega))
 have VR:Hid (RevV w10 r A1 n1 c1):=hid (RevV.ext VR8.out EE.out);have VX:Hid (RevV w10 x A2 n2 c2):=hid (RevV.ext VXX8.out EE.out)
 have VY:Hid (RevV w10 r A2 n2 c2):=hid (by
  have h:=VX.out;rw[HXX.out] at h;exact⟨h.row,h.le,h.cap,h.few,h.mean,h.mbyt⟩)
 have EW:Hid (Ext w w10):=hid (E8.out.next EE.out);have LY:Hid ((revC r A2 n2 c2).length=22):=hid (revC_len _ _ _ _ VY.out.mean);clear hw10 HG14 EF9 E8 K10 EE VR8 VXX8 BY9 BQ9 BX9 VX9 BK9 B9 V9 E9 c21 d21 fz;have HVX:Hid (∀W,Ext w10 W→Calls Tryz.prog 23 #[.agg (revC x A2 n2 c2).toArray] W fun e w'=>e=.returned (.int .i64 0)∧Ext W w'):=hid (fun W hW=>by rw[←HX.out.1];exact valid_any x A2 n2 c2 W (VX.out.ext hW))
 have HSM:Hid (∀W,Ext w10 W→Calls Tryz.prog 11 #[.agg (revC r A2 n2 c2).toArray,.agg (revC r A1 n1 c1).toArray] W fun e w'=>e=.returned (.bool true)∧Ext W w'):=hid (fun W hW=>by
  have h:=rsame_any r r A2 A1 n2 c2 n1 c1 W (VY.out.ext hW) HWW.out (VR.out.ext hW) HWW.out;rw[decide_eq_true rfl] at h;exact h)
 have e21:w10.cell? ⟨g10,21,none⟩=some (.string S):=(BX.out.cell 21).trans (by rw[revC_21 _ _ _ _ VX.out.mean,HX.out.2.2.2.2.2.2])
 have hsz:=HSZ.out;have hd1:decide ((1200:Int)<(S.size:Int))=false:=decide_eq_false (by omega)
 have hd2:decide (1200<S.size)=false:=decide_eq_false (by omega)
 clear hsz
 go_upto_region 10 with (first
  | (refine wpList_load_want (by rfl) 28 (.tmp 10) rfl g10 (by kernel_rfl) BX.out Tryz.underlying28 rfl (info_rev.trans (congrArg some LX.out.symm)) ?_)
  | (go_at_call 23;(with_reducible refine (HVX.out w10 (Ext.refl _)).mono ?_);rintro e w11 ⟨rfl,hE11⟩;have E11:=hid hE11;have BY1:=hid (BY.out.ext hE11);have BR1:=hid (BR.out.ext hE11);have e21:w11.cell? ⟨g10,21,none⟩=some (.string S):=((BX.out.ext hE11).cell 21).trans (by rw[revC_21 _ _ _ _ VX.out.mean,HX.out.2.2.2.2.2.2]);clear hE11)
  | (refine wpList_load_want (by rfl) 28 (.tmp 14) rfl g14 (by kernel_rfl) BY1.out Tryz.underlying28 rfl (info_rev.trans (congrArg some LY.out.symm)) ?_)
  | (refine wpList_load_want (by rfl) 28 (.tmp 7) rfl g7 (by kernel_rfl) BR1.out Tryz.underlying28 rfl (info_rev.trans (congrArg some L1.out.symm)) ?_)
  | (go_at_call 11;(with_reducible refine (HSM.out w11 E11.out).mono ?_);rintro e w12 ⟨rfl,hE12⟩;have E12:=hid (E11.out.next hE12);have e21:w12.cell? ⟨g10,21,none⟩=some (.string S):=((BX.out.ext E12.out).cell 21).trans (by rw[revC_21 _ _ _ _ VX.out.mean,HX.out.2.2.2.2.2.2]);clear hE12))
 have EW12:Hid (Ext w w12):=hid (EW.out.next E12.out);have CX:=hid (BX.out.ext E12.out);have CQ:=hid (BQ.out.ext E12.out);have CK:=hid (BK.out.ext E12.out);have CR:=hid (BR.out.ext E12.out);have WX:=hid (RevV.ext VX.out E12.out);clear BY1 BR1 E11 hd1 hd2 e21 HVX HSM BY VY LY BX BQ BK BR VX VR EW E12;have HKL:Hid ((u8s KD).length=16):=hid (by rw[u8s_len];exact HKD.out.l)
 have HRQ:Hid (∀W,Ext w12 W→W.rangeAt g12 0 (u8s KD)):=hid (fun W hW=>range_mid (CQ.out.ext hW).range 0 (u8s KD) (by rw[HQ0.out];exact pub_front KD 2 HKD.out.l))
 go_wp2_with fail
 go_loopw [15,16] (fun s15 s16 wr=>∃(t:Nat) (L:List (List Int×Int)) (A':Option Addr) (c':Nat),t≤ks+1∧s15=.slice A' t c'∧s16=.int .i64 (t:Int)∧L.length=t∧wr.ownsRow w12.heap.size 56 17 (.slice A' t c') t (pubsC L)∧(∀x∈L,x.1.length=16)∧Ext w12 wr) (fun _ s16 _=>4-(intOf s16).toNat)
 case atStart=>exact⟨0,[],none,0,Nat.zero_le _,rfl,rfl,rfl,World.ownsRow_nil _ _ _ _,(fun x hx=>by cases hx),Ext.refl _⟩
 case round =>
  obtain⟨t,L,A',c',htc,rfl,rfl,hLl,hown,hLP,hE⟩:=hrel;obtain⟨wi,rfl⟩:∃x:World,x=wr:=⟨_,rfl⟩
  have HOW:=hid hown;have HLL:=hid hLl;have HLP:=hid hLP;have EI:=hid hE;clear hown hLl hLP hE;have cK:wi.cell? ⟨g7,0,none⟩=some (.int .i64 (ks:Int)):=by rw[←HKS.out];exact (CR.out.ext EI.out).cell 0
  by_cases hlt:t≤ks
  ·have hd1:decide ((t:Int)≤(ks:Int))=true:=decide_eq_true (by omega)
   have hd2:decide (t≤ks)=true:=decide_eq_true hlt;have HLT:=hid hlt;have ht3:t<3:=by omega
   obtain⟨D,hD⟩:∃d,d=digestD KD (t:Int) ⟨#[111,116,104,101,114]⟩:=⟨_,rfl⟩
   have HDL:Hid (D.length=16):=hid (by rw[hD];exact (ofD_dig _ _).l)
   have LP:Hid ((pubC D ((a9:Int)-2)).length=17):=hid (pubC_len _ _ HDL.out)
   have HDG:Hid (∀W,Ext w12 W→Calls Tryz.prog 24 #[.agg (u8s KD).toArray,.int .i64 (t:Int),.string ⟨#[111,116,104,101,114]⟩] W fun e w'=>e=.returned (.agg (u8s D).toArray)∧Ext W w'):=hid (fun W hW=>by
    rw[hD];exact rDigest_any KD (t:Int) _ W HKD.out ⟨by omega,by omega⟩ (by decide) (HT.out.below (EW12.out.next hW)))
   have HRG:=hid (HRQ.out wi EI.out);have hlp:=LP.out;clear hlt htc hD
   go_wp2_with (first
    | ((with_reducible refine wpList_load_row 26 g12 0 (u8s KD) HRG.out Tryz.underlying26 rfl (dg_info.trans (congrArg some HKL.out.symm)) ?_ ?_ ?_);kernel_rfl;rfl)
    | (go_at_call 24;(with_reducible refine (HDG.out wi EI.out).mono ?_);rintro e wd ⟨rfl,hE⟩;have ED:=hid (EI.out.next hE);have HOD:Hid (wd.ownsRow w12.heap.size 56 17 (.slice A' t c') t (pubsC L)):=hid ((Kept.of_ext (F:=fun _=>False) hE).own HOW.out (fun _ _ h=>h));clear hE)
    | (go_at_call 12;(with_reducible refine (HA9.out _).mono ?_);rintro e wz ⟨rfl,rfl⟩)
    | (refine wpList_build_eq (by rfl) 56 _ rfl _ (by kernel_rfl) _ (build_pub D ((a9:Int)-2) HDL.out) ?_)
    | (at_builtin;(refine wpList_app rfl (.tmp 75) (.tmp 84) 54 rfl w12.heap.size 56 i0 (.agg (pubC (List.replicate 16 0) 0).toArray) 17 24 Tryz.underlying54 hi hz0 hz1 hz2 rfl (by omega) A' t c' (pubsC L) (by kernel_rfl) (HOD.out.alloc _) (wd.heap.size+1) (some ⟨wd.heap.size,0,none⟩) 1 1 (pubC D ((a9:Int)-2)) (by kernel_rfl) (RdN.fresh (pubC D ((a9:Int)-2)) _ _ 17 1 (by rw[fold_set];rw[LP.out];rfl) rfl LP.out) (pubC_one _ _) (by simp only[maxLen];omega) (by omega) (by have h1:=ED.out.size;simp;omega) ?_;intro A7 c7 w15 ho7 hg7;have HO7:=hid ho7;have E7:Hid (Ext w12 w15):=hid (below_app (ED.out.alloc _) hg7 (HOD.out.alloc _) (Nat.le_refl _) (by have h1:=ED.out.size;simp;omega));clear ho7 hg7)))
   refine⟨⟨t+1,L++[(D,(a9:Int)-2)],A7,c7,by have:=HLT.out;omega,rfl,by go_num,by rw[List.length_append,HLL.out];rfl,?_,?_,E7.out⟩,by simp [intOf];omega⟩
   ·rw[pubsC_snoc3]
    exact HO7.out
   ·intro x hx'
    rcases List.mem_append.1 hx' with h|h
    ·exact HLP.out x h
    ·rw[List.mem_singleton.1 h]
     exact HDL.out
  ·obtain rfl:t=ks+1:=by omega
   have hd1:decide (((ks+1:Nat):Int)≤(ks:Int))=false:=decide_eq_false (by omega)
   have hd2:decide (ks+1≤ks)=false:=decide_eq_false (by omega)
   have hd3:decide ((ks:Int)+1≤(ks:Int))=false:=decide_eq_false (by omega)
   clear hlt htc;obtain⟨L1,y,rfl,hL1⟩:=last_of HLL.out;have HL1:=hid hL1;obtain⟨g15,hA,hg15,hg15l,tl,hbl⟩:=own_blk HOW.out (Nat.succ_pos _);subst hA;have HPL:Hid ((pubsC L1).length=ks*17):=hid (by rw[pubsC_len L1 (fun z hz=>HLP.out z (List.mem_append_left _ hz)),hL1])
   have HYL:Hid ((pubC y.1 y.2).length=17):=hid (pubC_len _ _ (HLP.out y (List.mem_append_right _ (List.mem_singleton.2 rfl))));have BL:Hid (Blk wi g15 56 (pubsC L1++pubC y.1 y.2++tl)):=hid (by rw[←pubsC_snoc3];exact hbl)
   have HG15:=hid hg15;have CQI:=hid (CQ.out.ext EI.out);clear hL1 hg15 hg15l hbl
   go_upto_region 16 with (first
    | (refine wpList_load_blk rfl 56 (.tmp 12) rfl g12 (by kernel_rfl) CQI.out Tryz.underlying56 rfl (pub_info.trans (congrArg some HQL.out.symm)) ?_)
    | (refine wpList_store_seg rfl 56 (.tmp 90) (.tmp 89) rfl g15 (ks*17) Q0 (by kernel_rfl) (by kernel_rfl) BL.out (pub_info.trans (congrArg some HQL.out.symm)) (by simp only[List.length_append];rw[HPL.out,HYL.out,HQL.out];omega) HQ1.out ?_;intro w13 hw13 hb13;have BL13:Hid (Blk w13 g15 56 (pubsC L1++Q0++tl)):=hid (by rw[put_seg HPL.out (HYL.out.trans HQL.out.symm)] at hb13;exact hb13);have EI3:Hid (Ext w12 w13):=hid (by rw[hw13.out];exact EI.out.setRow HG15.out _);clear hw13 hb13))
   have HLR:Hid (∀W,Ext w13 W→RdN W W.heap.size 17 (some ⟨g15,0,none⟩) (ks+1) (pubsC (L1++[(KD,2)]))):=hid (fun W hW=>rows_front (tl:=tl) (by rw[pubsC_snoc3,←HQ0.out];exact BL13.out.ext hW) (by rw[pubsC_snoc3,List.length_append,HPL.out,pubC_len _ _ HKD.out.l];omega))
   have HLD:Hid (∀x∈L1++[(KD,(2:Int))],x.1.length=16):=hid (fun z hz=>by
    rcases List.mem_append.1 hz with h|h
    ·exact HLP.out z (List.mem_append_left _ h)
    ·rw[List.mem_singleton.1 h];exact HKD.out.l)
   have HLK:Hid ((L1++[(KD,(2:Int))])[ks]?=some (KD,2)):=hid (by rw[List.getElem?_append_right (by rw[HL1.out];exact Nat.le_refl _),HL1.out,Nat.sub_self];rfl)
   have EW13:Hid (Ext w w13):=hid (EW12.out.next EI3.out);have DX:=hid (CX.out.ext EI3.out);have DQ:=hid (CQ.out.ext EI3.out);have DK:=hid (CK.out.ext EI3.out);have DR:=hid (CR.out.ext EI3.out);have UX:=hid (RevV.ext WX.out EI3.out);have HRD:Hid (∀W,Ext w13 W→W.rangeAt g12 0 (u8s KD)):=hid (fun W hW=>HRQ.out W (EI3.out.next hW))
   clear CQI BL HPL HYL HOW HLL HLP EI HG15 BL13 HL1 CX CQ CK CR WX HRQ EI3 EW12 HA9 cK hd1 hd2 hd3;obtain⟨MS,hMS⟩:∃m,m=msgS r:=⟨_,rfl⟩
   obtain⟨nv,hnv⟩:∃v:Nat,v=4-qs:=⟨_,rfl⟩
   have HM1:Hid (∀W,Ext w13 W→Calls Tryz.prog 26 #[.agg (revC x A2 n2 c2).toArray] W fun e w'=>e=.returned (.string MS)∧Ext W w'):=hid (fun W hW=>by rw[hMS,←HX.out.2.2.1];exact rmessage_any x A2 n2 c2 W (UX.out.ext hW) HX.out.2.1)
   have HMZ:Hid (MS.size≤1000000):=hid (by rw[hMS,←HX.out.2.2.1];exact msgS_le x UX.out HX.out.2.1)
   have HV1:Hid (∀W,Ext w13 W→Calls Tryz.prog 25 #[.agg (u8s KD).toArray,.int .i64 2,.string MS,.string S] W fun e w'=>e=.returned (.tuple #[.int .i64 (nv:Int),.int .i64 0])∧Ext W w'):=hid (fun W hW=>by
    have h:=verify_all KD 2 MS S W HKD.out (by decide) HMZ.out (Nat.le_trans HSZ.out (by decide)) (HK.out.below (EW13.out.next hW))
    rw[hMS,HVS.out] at h;rw[hMS,hnv];exact h)
   have HRV1:Hid (∀W,Ext w13 W→Calls Tryz.prog 20 #[.slice (some ⟨g15,0,none⟩) (ks+1) c',.agg (revC x A2 n2 c2).toArray] W fun e w'=>e=.returned (.int .i64 0)∧Ext W w'):=hid (fun W hW=>by
    have h:=ver_form x (L1++[(KD,2)]) A2 (some ⟨g15,0,none⟩) n2 c2 (ks+1) c' ks 2 KD W (UX.out.ext hW) HX.out.1 HX.out.2.2.2.2.2.1 (Nat.lt_succ_self _) HLD.out (HLR.out W hW) HLK.out HKD.out (by decide) HX.out.2.1 (by rw[HX.out.2.2.1,←hMS];exact HMZ.out) (by rw[HX.out.2.2.2.2.2.2];exact Nat.le_trans HSZ.out (by decide)) (HK.out.below (EW13.out.next hW))
    have hv:verP (verV KD 2 (msgS x) x.sl) 2 x.seq=0:=by
     rw[HX.out.2.2.1,HX.out.2.2.2.2.2.2,HVS.out,HX.out.2.2.2.2.1];unfold verP;rw[if_pos rfl,if_pos (by show ((4-qs:Nat):Int)+(qs:Int)=((4:Nat):Int);omega)]
    rw[hv] at h;exact h)
   have CL:Hid (∀W,Calls Tryz.prog 14 #[] W fun e w'=>e=.returned (.bool true)∧Ext W w'):=hid lives_any
   have HNV:Hid (nv=4-qs):=hid hnv;clear HLR HLD HLK hMS hnv
   refine wp_region_flowG 12 ?FW16 (fun us=>?_) (by kernel_rfl) (by kernel_rfl) (fun a b=>Ext a b) Ext.refl (fun h1 h2=>h1.next h2) (fun i v W=>match i with
    | 0=>v=.pointer (some ⟨g12,0,none⟩)
    | 1=>v=.agg (u8s KD).toArray
    | 2=>v=.agg (revC x A2 n2 c2).toArray
    | 3=>v=.string MS
    | 4=>v=.pointer (some ⟨g10,21,none⟩)
    | 5=>v=.string S
    | 6=>v=.tuple #[.int .i64 (nv:Int),.int .i64 0]
    | 7=>v=.tuple #[.int .i64 (nv:Int),.int .i64 0]
    | 8=>v=.int .i64 (nv:Int)
    | 9=>v=.int .i64 0
    | 10=>v=.int .i64 (nv:Int)
    | 11=>v=.int .i64 0
    | _=>True) ?_ ?_
   case refine_1 =>
    simp only[List.take_succ_cons,List.take_zero,flowAct,Nat.zero_add,Nat.reduceAdd,Act.put,List.setIfInBounds_toArray,List.set_cons_succ,List.set_cons_zero]
    rfl
   ·simp only[List.take_succ_cons,List.take_zero,flowStepsG]
    refine⟨?_,?_,?_,?_,?_,?_,?_,?_,?_,?_,?_,?_,trivial⟩
    ·intro us W K HE hd HK
     dsimp only at HK⊢;clear hd;go_wp2_with fail
     exact K_at (Kz HK) (by kernel_rfl)
    ·intro us W K HE hd HK
     have d0:=hd 0 (by kernel_rfl)
     have HRW:=hid (HRD.out W (sg_undrew HE.out));dsimp only at HK⊢;rw[d0] at HK⊢;clear hd d0;go_wp2_with (((with_reducible refine wpList_load_row 26 g12 0 (u8s KD) HRW.out Tryz.underlying26 rfl (dg_info.trans (congrArg some HKL.out.symm)) ?_ ?_ ?_);kernel_rfl;rfl))
     exact K_at (Kz HK) (by kernel_rfl)
    ·intro us W K HE hd HK
     have BW9:=hid (DX.out.ext (sg_undrew HE.out));dsimp only at HK⊢;clear hd;go_wp2_with ((refine wpList_load_want (by rfl) 28 (.tmp 10) rfl g10 (by kernel_rfl) BW9.out Tryz.underlying28 rfl (info_rev.trans (congrArg some LX.out.symm)) ?_))
     exact K_at (Kz HK) (by kernel_rfl)
    ·intro us W K HE hd HK
     have d2:=hd 2 (by kernel_rfl)
     dsimp only at HK⊢;rw[d2] at HK⊢;clear hd d2;go_wp2_with ((go_at_call 26;(with_reducible refine (HM1.out W (sg_undrew HE.out)).mono ?_);rintro e w99 ⟨rfl,hB9⟩))
     exact K_at (HK.out (.string MS) w99 (fun _ _=>rfl) hB9) (by kernel_rfl)
    ·intro us W K HE hd HK
     dsimp only at HK⊢;clear hd;go_wp2_with fail
     exact K_at (Kz HK) (by kernel_rfl)
    ·intro us W K HE hd HK
     have d4:=hd 4 (by kernel_rfl)
     have cc:W.cell? ⟨g10,21,none⟩=some (.string S):=((DX.out.ext (sg_undrew HE.out)).cell 21).trans (by rw[revC_21 _ _ _ _ UX.out.mean,HX.out.2.2.2.2.2.2])
     dsimp only at HK⊢;rw[d4] at HK⊢;clear hd d4;go_wp2_with fail
     exact K_at (Kz HK) (by kernel_rfl)
    ·intro us W K HE hd HK
     have d1:=hd 1 (by kernel_rfl)
     have d3:=hd 3 (by kernel_rfl)
     have d5:=hd 5 (by kernel_rfl)
     dsimp only at HK⊢;rw[d1,d3,d5] at HK⊢;clear hd d1 d3 d5;go_wp2_with ((go_at_call 25;(with_reducible refine (HV1.out W (sg_undrew HE.out)).mono ?_);rintro e w99 ⟨rfl,hB9⟩))
     exact K_at (HK.out (.tuple #[.int .i64 (nv:Int),.int .i64 0]) w99 (fun _ _=>rfl) hB9) (by kernel_rfl)
    ·intro us W K HE hd HK
     have d6:=hd 6 (by kernel_rfl)
     dsimp only at HK⊢;rw[d6] at HK⊢;clear hd d6;go_wp2_with fail
     exact K_at (Kz HK) (by kernel_rfl)
    ·intro us W K HE hd HK
     have d7:=hd 7 (by kernel_rfl)
     dsimp only at HK⊢;rw[d7] at HK⊢;clear hd d7;go_wp2_with fail
     exact K_at (Kz HK) (by kernel_rfl)
    ·intro us W K HE hd HK
     have d7:=hd 7 (by kernel_rfl)
     dsimp only at HK⊢;rw[d7] at HK⊢;clear hd d7;go_wp2_with fail
     exact K_at (Kz HK) (by kernel_rfl)
    ·intro us W K HE hd HK
     have d8:=hd 8 (by kernel_rfl)
     dsimp only at HK⊢;rw[d8] at HK⊢;clear hd d8;go_wp2_with fail
     exact K_at (Kz HK) (by kernel_rfl)
    ·intro us W K HE hd HK
     have d9:=hd 9 (by kernel_rfl)
     dsimp only at HK⊢;rw[d9] at HK⊢;clear hd d9;go_wp2_with fail
     exact K_at (Kz HK) (by kernel_rfl)
   ·intro us W hE hd
    try dsimp only
    have d10:=hd 10 (by decide)
    have d11:=hd 11 (by decide)
    simp only[List.drop_succ_cons,List.drop_zero]
    rw[d10,d11];have E14:=hid (sg_undrew hE);clear hd hE d10 d11;obtain⟨w14,rfl⟩:∃x:World,x=W:=⟨_,rfl⟩
    have FX:=hid (DX.out.ext E14.out);have FK:=hid (DK.out.ext E14.out);have FR:=hid (DR.out.ext E14.out);have EW14:Hid (Ext w w14):=hid (EW13.out.next E14.out);clear DX DK DR DQ HM1 HV1 HMZ HVS UX;obtain⟨sq,hsq⟩:∃k:Nat,k=b4+1:=⟨_,rfl⟩
    have hadd:(1:Int)+(b4:Int)=(sq:Int):=by omega
    have hsq1:1≤sq:=by omega
    have hsq4:sq≤4:=by omega
    have hwa:IntKind.i64.wrap (sq:Int)=(sq:Int):=wrap_id _ (by omega) (by omega)
    have HPO:=hid (patM_ok ks b4 hk3 hb44);rw[←hsq] at HPO;have HPW:Hid (PatW (patM (ks:Int) (sq:Int) ⟨#[]⟩)):=hid (patM_W _ _ _ ⟨by omega,by omega⟩ ⟨by omega,by omega⟩ (Nat.zero_le _) (Nat.le_trans HPO.out.2.1 (by decide)))
    clear hsq;go_upto_region 17 with fail
    refine wp_region_flowG 9 ?FW17 (fun us=>?_) (by kernel_rfl) (by kernel_rfl) (fun a b=>Ext a b) Ext.refl (fun h1 h2=>h1.next h2) (fun i v W=>match i with
     | 0=>v=.pointer (some ⟨g7,0,none⟩)
     | 1=>v=.int .i64 (ks:Int)
     | 2=>v=.int .i64 s0
     | 3=>v=.int .i64 (b4:Int)
     | 4=>v=.int .i64 (sq:Int)
     | 5=>v=.agg ([.int .i64 0,.int .i64 0,.int .i64 0,.int .i64 0,.int .i64 0,.int .i64 0,.int .i64 0,.int .i64 0,.int .i64 0,.string ⟨#[109]⟩,.int .i64 0,.int .i64 0,.int .i64 0,.int .i64 0,.slice none 0 0,.int .i64 0,.int .i64 0,.int .i64 0,.int .i64 0,.int .i64 0,.int .i64 0,.int .i64 0,.int .i64 0,.int .i64 0,.slice none 0 0,.slice none 0 0,.slice none 0 0,.slice none 0 0]:List Value).toArray
     | 6=>∃gb:Nat,v=.slice (some ⟨gb,0,none⟩) 1 1∧RdN W W.heap.size 28 (some ⟨gb,0,none⟩) 1 [.int .i64 0,.int .i64 0,.int .i64 0,.int .i64 0,.int .i64 0,.int .i64 0,.int .i64 0,.int .i64 0,.int .i64 0,.string ⟨#[109]⟩,.int .i64 0,.int .i64 0,.int .i64 0,.int .i64 0,.slice none 0 0,.int .i64 0,.int .i64 0,.int .i64 0,.int .i64 0,.int .i64 0,.int .i64 0,.int .i64 0,.int .i64 0,.int .i64 0,.slice none 0 0,.slice none 0 0,.slice none 0 0,.slice none 0 0]
     | 7=>∃gb:Nat,v=.agg ([.int .i64 (ks:Int),.int .i64 (sq:Int),.int .i64 1,.slice none 0 0,.int .i64 0,.slice (some ⟨gb,0,none⟩) 1 1,.string ⟨#[]⟩]:List Value).toArray∧RdN W W.heap.size 28 (some ⟨gb,0,none⟩) 1 [.int .i64 0,.int .i64 0,.int .i64 0,.int .i64 0,.int .i64 0,.int .i64 0,.int .i64 0,.int .i64 0,.int .i64 0,.string ⟨#[109]⟩,.int .i64 0,.int .i64 0,.int .i64 0,.int .i64 0,.slice none 0 0,.int .i64 0,.int .i64 0,.int .i64 0,.int .i64 0,.int .i64 0,.int .i64 0,.int .i64 0,.int .i64 0,.int .i64 0,.slice none 0 0,.slice none 0 0,.slice none 0 0,.slice none 0 0]
     | 8=>∃gz:Nat,v=.pointer (some ⟨gz,0,none⟩)∧w14.heap.size≤gz∧Blk W gz 42 P0
     | _=>True) ?_ ?_
    case refine_1 =>
     simp only[List.take_succ_cons,List.take_zero,flowAct,Nat.zero_add,Nat.reduceAdd,Act.put,List.setIfInBounds_toArray,List.set_cons_succ,List.set_cons_zero]
     rfl
    ·simp only[List.take_succ_cons,List.take_zero,flowStepsG]
     refine⟨?_,?_,?_,?_,?_,?_,?_,?_,?_,trivial⟩
     ·intro us W K HE hd HK
      dsimp only at HK⊢;clear hd;go_wp2_with fail
      exact K_at (Kz HK) (by kernel_rfl)
     ·intro us W K HE hd HK
      have d0:=hd 0 (by kernel_rfl)
      have cc:W.cell? ⟨g7,0,none⟩=some (.int .i64 (ks:Int)):=by rw[←HKS.out];exact (FR.out.ext (sg_undrew HE.out)).cell 0
      dsimp only at HK⊢;rw[d0] at HK⊢;clear hd d0;go_wp2_with fail
      exact K_at (Kz HK) (by kernel_rfl)
     ·intro us W K HE hd HK
      dsimp only at HK⊢;clear hd;go_wp2_with fail
      exact K_at (Kz HK) (by kernel_rfl)
     ·intro us W K HE hd HK
      have d2:=hd 2 (by kernel_rfl)
      dsimp only at HK⊢;rw[d2] at HK⊢;clear hd d2;go_wp2_with ((go_at_call 12;(with_reducible refine (HB4.out W).mono ?_);rintro e w99 ⟨rfl,hB9⟩))
      exact K_at (HK.out (.int .i64 (b4:Int)) w99 (fun _ _=>rfl) (by rw[hB9];exact Ext.refl _)) (by kernel_rfl)
     ·intro us W K HE hd HK
      have d3:=hd 3 (by kernel_rfl)
      dsimp only at HK⊢;rw[d3] at HK⊢;clear hd d3;go_wp2_with fail
      exact K_at (Kz HK) (by kernel_rfl)
     ·intro us W K HE hd HK
      dsimp only at HK⊢;clear hd;go_wp2_with ((refine wpList_build_eq (by rfl) 76 _ rfl _ (by kernel_rfl) _ build_mod ?_))
      exact K_at (Kz HK) (by kernel_rfl)
     ·intro us W K HE hd HK
      have d5:=hd 5 (by kernel_rfl)
      dsimp only at HK⊢;rw[d5] at HK⊢;clear hd d5;go_wp2_with fail
      exact K_at (HK.out (.slice (some ⟨W.heap.size,0,none⟩) 1 1) (W.alloc (.cells #[.int .i64 0,.int .i64 0,.int .i64 0,.int .i64 0,.int .i64 0,.int .i64 0,.int .i64 0,.int .i64 0,.int .i64 0,.string ⟨#[109]⟩,.int .i64 0,.int .i64 0,.int .i64 0,.int .i64 0,.slice none 0 0,.int .i64 0,.int .i64 0,.int .i64 0,.int .i64 0,.int .i64 0,.int .i64 0,.int .i64 0,.int .i64 0,.int .i64 0,.slice none 0 0,.slice none 0 0,.slice none 0 0,.slice none 0 0] 76)) (fun W2 h2=>⟨W.heap.size,rfl,RdN.fresh_in [.int .i64 0,.int .i64 0,.int .i64 0,.int .i64 0,.int .i64 0,.int .i64 0,.int .i64 0,.int .i64 0,.int .i64 0,.string ⟨#[109]⟩,.int .i64 0,.int .i64 0,.int .i64 0,.int .i64 0,.slice none 0 0,.int .i64 0,.int .i64 0,.int .i64 0,.int .i64 0,.int .i64 0,.int .i64 0,.int .i64 0,.int .i64 0,.int .i64 0,.slice none 0 0,.slice none 0 0,.slice none 0 0,.slice none 0 0] rfl rfl h2⟩) ((Ext.refl W).alloc _)) (by kernel_rfl)
     ·intro us W K HE hd HK
      have d1:=hd 1 (by kernel_rfl)
      have d4:=hd 4 (by kernel_rfl)
      obtain⟨gb,d6,h6⟩:=hd 6 (by kernel_rfl)
      have H6:=hid h6;clear h6;dsimp only at HK⊢;rw[d1,d4,d6] at HK⊢;clear hd d1 d4 d6;go_wp2_with ((refine wpList_build_eq (by rfl) 42 _ rfl _ (by kernel_rfl) _ (build_patm (ks:Int) (sq:Int) (some ⟨gb,0,none⟩) 1 1) ?_))
      exact K_at (HK.out (.agg ([.int .i64 (ks:Int),.int .i64 (sq:Int),.int .i64 1,.slice none 0 0,.int .i64 0,.slice (some ⟨gb,0,none⟩) 1 1,.string ⟨#[]⟩]:List Value).toArray) W (fun W2 h2=>⟨gb,rfl,(H6.out.below h2 (Nat.le_refl _)).more h2.size⟩) (Ext.refl W)) (by kernel_rfl)
     ·intro us W K HE hd HK
      have HSW:=hid (sg_undrew HE.out).size;dsimp only at HK⊢;clear hd;go_wp2_with fail
      exact K_at (HK.out (.pointer (some ⟨W.heap.size,0,none⟩)) (W.alloc (.cells P0.toArray 42)) (fun W2 hW2=>⟨W.heap.size,rfl,HSW.out,(Blk.fresh' W 42 P0 _ _ rfl rfl).ext hW2⟩) ((Ext.refl W).alloc _)) (by kernel_rfl)
    ·intro us W hE hd
     try dsimp only
     obtain⟨gb,d7,h7⟩:=hd 7 (by decide)
     obtain⟨g19,d8,hg19,hb19⟩:=hd 8 (by decide)
     simp only[List.drop_succ_cons,List.drop_zero]
     rw[d7,d8];have E15:=hid (sg_undrew hE);have H7:=hid h7;have HG19:=hid hg19;have B19:=hid hb19;clear hd hE d7 d8 h7 hg19 hb19;go_upto_region 18 with (refine wpList_store_blk rfl 42 (.tmp 19) (.tmp 108) rfl g19 [.int .i64 (ks:Int),.int .i64 (sq:Int),.int .i64 1,.slice none 0 0,.int .i64 0,.slice (some ⟨gb,0,none⟩) 1 1,.string ⟨#[]⟩] (by kernel_rfl) (by kernel_rfl) B19.out (info_pat.trans rfl) rfl (by intro v hv;simp only[List.mem_cons,List.not_mem_nil,or_false] at hv;rcases hv with rfl|rfl|rfl|rfl|rfl|rfl|rfl<;>rfl) ?_;intro w15 hw15 hb15;have B15:Hid (Blk w15 g19 42 [.int .i64 (ks:Int),.int .i64 (sq:Int),.int .i64 1,.slice none 0 0,.int .i64 0,.slice (some ⟨gb,0,none⟩) 1 1,.string ⟨#[]⟩]):=hid hb15;have K15:Hid (Kept (fun b=>b=g19) W w15):=hid (by rw[hw15.out];exact Kept.setRow (F:=fun b=>b=g19) W rfl _);clear hw15 hb15)
     have E145:Hid (Ext w14 w15):=hid (ext_kept E15.out K15.out (fun b hb=>by rw[hb];exact HG19.out))
     have ROW:Hid (RdN w15 w15.heap.size 28 (some ⟨gb,0,none⟩) 1 [.int .i64 0,.int .i64 0,.int .i64 0,.int .i64 0,.int .i64 0,.int .i64 0,.int .i64 0,.int .i64 0,.int .i64 0,.string ⟨#[109]⟩,.int .i64 0,.int .i64 0,.int .i64 0,.int .i64 0,.slice none 0 0,.int .i64 0,.int .i64 0,.int .i64 0,.int .i64 0,.int .i64 0,.int .i64 0,.int .i64 0,.int .i64 0,.int .i64 0,.slice none 0 0,.slice none 0 0,.slice none 0 0,.slice none 0 0]):=hid (H7.out.wide K15.out B19.out (by show 7<28;decide))
     have EW15:Hid (Ext w w15):=hid (EW14.out.next E145.out);have GX:=hid (FX.out.ext E145.out);have GK:=hid (FK.out.ext E145.out);have GR:=hid (FR.out.ext E145.out);have E135:Hid (Ext w13 w15):=hid (E14.out.next E145.out);clear FX FK FR H7 B19 K15 HG19 E15 E145 EW14 E14;have HPV:Hid (PatV w15 (patM (ks:Int) (sq:Int) ⟨#[]⟩) [.int .i64 (ks:Int),.int .i64 (sq:Int),.int .i64 1,.slice none 0 0,.int .i64 0,.slice (some ⟨gb,0,none⟩) 1 1,.string ⟨#[]⟩]):=hid (oneP_V w15 _ _ _ _ opM ⟨#[]⟩ [.int .i64 0,.int .i64 0,.int .i64 0,.int .i64 0,.int .i64 0,.int .i64 0,.int .i64 0,.int .i64 0,.int .i64 0,.string ⟨#[109]⟩,.int .i64 0,.int .i64 0,.int .i64 0,.int .i64 0,.slice none 0 0,.int .i64 0,.int .i64 0,.int .i64 0,.int .i64 0,.int .i64 0,.int .i64 0,.int .i64 0,.int .i64 0,.int .i64 0,.slice none 0 0,.slice none 0 0,.slice none 0 0,.slice none 0 0] (some ⟨gb,0,none⟩) 1 ROW.out (opFC_V 0 0 0 0 0 0 0 0 0 ⟨#[109]⟩ ⟨0,⟨0,0,0⟩⟩ ⟨0,⟨0,0,0⟩⟩ 0 0 0 0 0 none none 0 0 (by decide) (by decide) w15) (by decide) (by decide))
     obtain⟨S2,hS2⟩:∃s,s=strOf (signL seed 2 (sq-1) (strOf (msgP (patM (ks:Int) (sq:Int) ⟨#[]⟩)))):=⟨_,rfl⟩
     obtain⟨iq,hiq⟩:∃k:Nat,k=sq-1:=⟨_,rfl⟩
     have HS2Z:Hid (S2.size≤1200):=hid (by rw[hS2];exact signL_le seed 2 _ _ (by decide) (by omega))
     have HPS:Hid (Calls Tryz.prog 27 #[.agg (keyC seed 2).toArray,.agg #[.int .i64 (ks:Int),.int .i64 (sq:Int),.int .i64 1,.slice none 0 0,.int .i64 0,.slice (some ⟨gb,0,none⟩) 1 1,.string ⟨#[]⟩]] w15 fun e w'=>(∃A3 c3 B3 d3,e=.returned (.tuple #[.agg #[.int .i64 (ks:Int),.int .i64 (sq:Int),.int .i64 1,.slice A3 0 c3,.int .i64 0,.slice B3 1 d3,.string S2],.int .i64 0])∧PatV w' (patM (ks:Int) (sq:Int) S2) [.int .i64 (ks:Int),.int .i64 (sq:Int),.int .i64 1,.slice A3 0 c3,.int .i64 0,.slice B3 1 d3,.string S2])∧Ext w15 w'):=hid ((psign_one 0 0 0 0 0 0 0 0 0 ⟨#[109]⟩ 0 0 0 0 0 0 0 0 0 0 0 0 0 (ks:Int) 1 0 ⟨#[]⟩ seed 2 4 sq [.int .i64 (ks:Int),.int .i64 (sq:Int),.int .i64 1,.slice none 0 0,.int .i64 0,.slice (some ⟨gb,0,none⟩) 1 1,.string ⟨#[]⟩] w15 SD.out HPV.out HPW.out HPO.out.1 (by decide) rfl hsq1 hsq4 (Nat.le_trans HPO.out.2.2 (by decide)) (HK.out.below EW15.out) (HC.out.below EW15.out) (HU.out.below EW15.out)).mono fun e w' ⟨⟨cs',h1,h2⟩,h3⟩=>by
      refine⟨?_,h3⟩
      have h2':PatV w' (patM (ks:Int) (sq:Int) S2) cs':=by rw[hS2];exact h2
      have hv2:=h2';obtain⟨X,A3,n3,c3,B3,m3,d3,hcs,hS⟩:=h2';obtain rfl:n3=0:=hS.len.1.symm
      obtain rfl:m3=1:=hS.len.2.2.symm
      have hcl:cs'=[.int .i64 (ks:Int),.int .i64 (sq:Int),.int .i64 1,.slice A3 0 c3,.int .i64 0,.slice B3 1 d3,.string S2]:=hcs;subst hcl;exact⟨A3,c3,B3,d3,h1,hv2⟩)
     have HM2:Hid (∀W cs,PatV W (patM (ks:Int) (sq:Int) S2) cs→Calls Tryz.prog 28 #[.agg cs.toArray] W fun e w'=>(∃A' c',e=.returned (.slice A' (msgP (patM (ks:Int) (sq:Int) ⟨#[]⟩)).length c')∧Rd w' w'.heap.size A' (msgP (patM (ks:Int) (sq:Int) ⟨#[]⟩)).length (u8s (msgP (patM (ks:Int) (sq:Int) ⟨#[]⟩))))∧Ext W w'):=hid (fun W cs h1=>(pmessage_any (patM (ks:Int) (sq:Int) S2) cs W h1 (patM_W _ _ _ ⟨by omega,by omega⟩ ⟨by omega,by omega⟩ (Nat.le_trans HS2Z.out (by decide)) (by
      have h2:=HPO.out.2.1
      have h3:(encP (patM (ks:Int) (sq:Int) S2)).length+(encB ⟨#[]⟩).length=(encP (patM (ks:Int) (sq:Int) ⟨#[]⟩)).length+(encB S2).length:=by
       unfold encP patM oneP;simp only[List.length_append]
       omega
      have h4:(encB S2).length≤2000:=by
       have h5:=encInt_le9 (S2.size:Int) (by omega) (by have:=HS2Z.out;omega)
       unfold encB;rw[List.length_append,bys_length];have:=HS2Z.out
       omega
      omega))).mono fun e w' ⟨⟨A',c',h2,h3,_⟩,h4⟩=>⟨⟨A',c',h2,h3⟩,h4⟩)
     have HV2:Hid (∀W,Ext w15 W→Calls Tryz.prog 25 #[.agg (u8s KD).toArray,.int .i64 2,.string (strOf (msgP (patM (ks:Int) (sq:Int) ⟨#[]⟩))),.string S2] W fun e w'=>e=.returned (.tuple #[.int .i64 (iq:Int),.int .i64 0])∧Ext W w'):=hid (fun W hW=>by
      have h:=verify_all KD 2 (strOf (msgP (patM (ks:Int) (sq:Int) ⟨#[]⟩))) S2 W HKD.out (by decide) (by rw[strOf_size];exact Nat.le_trans HPO.out.2.2 (by decide)) (Nat.le_trans HS2Z.out (by decide)) (HK.out.below (EW15.out.next hW))
      have hv:verV KD 2 (strOf (msgP (patM (ks:Int) (sq:Int) ⟨#[]⟩))) S2=(((sq-1:Nat):Int),0):=by rw[HKDE.out,hS2];exact verV_sign seed _ 2 (sq-1) (by show sq-1<4;omega) (by decide)
      rw[hv] at h;rw[hiq];exact h)
     have HIQ:Hid (iq=sq-1):=hid hiq;obtain⟨ML,hML⟩:∃m,m=msgP (patM (ks:Int) (sq:Int) ⟨#[]⟩):=⟨_,rfl⟩
     obtain⟨ml,hml⟩:∃m,m=ML.length:=⟨_,rfl⟩
     obtain⟨M2,hM2⟩:∃m,m=strOf ML:=⟨_,rfl⟩
     rw[←hML,←hml] at HM2;rw[←hML,←hM2] at HV2;have HMM2:=hid hM2;clear hS2 hiq hML hml hM2 HPO HPW ROW HPV
     go_upto_region 19 with (first
      | (refine wpList_load_blk rfl 52 (.tmp 9) rfl g9 (by kernel_rfl) GK.out Tryz.underlying52 rfl (key_info.trans rfl) ?_)
      | (refine wpList_load_blk rfl 42 (.tmp 19) rfl g19 (by kernel_rfl) B15.out Tryz.underlying42 rfl (info_pat.trans rfl) ?_)
      | (go_at_call 27;(with_reducible refine HPS.out.mono ?_);rintro e w16 ⟨⟨A3,c3,B3,d3,rfl,hpv⟩,hE⟩;have PV:=hid hpv;have E16:=hid hE;clear hpv hE)
      | (refine wpList_store_freshw rfl 42 (.tmp 20) (.tmp 113) rfl w16.heap.size rfl P0 [.int .i64 (ks:Int),.int .i64 (sq:Int),.int .i64 1,.slice A3 0 c3,.int .i64 0,.slice B3 1 d3,.string S2] 42 (by kernel_rfl) (by kernel_rfl) (info_pat.trans rfl) rfl (by intro v hv;simp only[List.mem_cons,List.not_mem_nil,or_false] at hv;rcases hv with rfl|rfl|rfl|rfl|rfl|rfl|rfl<;>rfl) ?_;intro w17 hw17 hE17 hz17;have B20:=hid hw17;have PV7:=hid (PV.out.ext hE17);have E17:Hid (Ext w15 w17):=hid (E16.out.next hE17);clear hw17 hE17 hz17))
     obtain⟨g20,hg20⟩:∃g,g=w16.heap.size:=⟨_,rfl⟩
     rw[←hg20] at B20⊢;clear hg20 E16 PV HPS;have JX:=hid (GX.out.ext E17.out);have JR:=hid (GR.out.ext E17.out);have J19:=hid (B15.out.ext E17.out);have EW17:Hid (Ext w w17):=hid (EW15.out.next E17.out);have E137:Hid (Ext w13 w17):=hid (E135.out.next E17.out);clear GX GK GR B15
     refine wp_region_flowG 13 ?FW19 (fun us=>?_) (by kernel_rfl) (by kernel_rfl) (fun a b=>Ext a b) Ext.refl (fun h1 h2=>h1.next h2) (fun i v W=>match i with
      | 0=>v=.pointer (some ⟨g12,0,none⟩)
      | 1=>v=.agg (u8s KD).toArray
      | 2=>v=.agg #[.int .i64 (ks:Int),.int .i64 (sq:Int),.int .i64 1,.slice A3 0 c3,.int .i64 0,.slice B3 1 d3,.string S2]
      | 3=>∃A' c',v=.slice A' ml c'∧Rd W W.heap.size A' ml (u8s ML)
      | 4=>v=.string M2
      | 5=>v=.pointer (some ⟨g20,6,none⟩)
      | 6=>v=.string S2
      | 7=>v=.tuple #[.int .i64 (iq:Int),.int .i64 0]
      | 8=>v=.tuple #[.int .i64 (iq:Int),.int .i64 0]
      | 9=>v=.int .i64 (iq:Int)
      | 10=>v=.int .i64 0
      | 11=>v=.int .i64 (iq:Int)
      | 12=>v=.int .i64 0
      | _=>True) ?_ ?_
     case refine_1 =>
      simp only[List.take_succ_cons,List.take_zero,flowAct,Nat.zero_add,Nat.reduceAdd,Act.put,List.setIfInBounds_toArray,List.set_cons_succ,List.set_cons_zero]
      rfl
     ·simp only[List.take_succ_cons,List.take_zero,flowStepsG]
      refine⟨?_,?_,?_,?_,?_,?_,?_,?_,?_,?_,?_,?_,?_,trivial⟩
      ·intro us W K HE hd HK
       dsimp only at HK⊢;clear hd;go_wp2_with fail
       exact K_at (Kz HK) (by kernel_rfl)
      ·intro us W K HE hd HK
       have d0:=hd 0 (by kernel_rfl)
       have HRW:=hid (HRD.out W (E137.out.next (sg_undrew HE.out)));dsimp only at HK⊢;rw[d0] at HK⊢;clear hd d0;go_wp2_with (((with_reducible refine wpList_load_row 26 g12 0 (u8s KD) HRW.out Tryz.underlying26 rfl (dg_info.trans (congrArg some HKL.out.symm)) ?_ ?_ ?_);kernel_rfl;rfl))
       exact K_at (Kz HK) (by kernel_rfl)
      ·intro us W K HE hd HK
       have BW9:=hid (B20.out.ext (sg_undrew HE.out));dsimp only at HK⊢;clear hd;go_wp2_with ((refine wpList_load_want (by rfl) 42 (.tmp 20) rfl g20 (by kernel_rfl) BW9.out Tryz.underlying42 rfl (info_pat.trans rfl) ?_))
       exact K_at (Kz HK) (by kernel_rfl)
      ·intro us W K HE hd HK
       have d2:=hd 2 (by kernel_rfl)
       have HMW:=hid (HM2.out W _ (PV7.out.ext (sg_undrew HE.out)));dsimp only at HK⊢;rw[d2] at HK⊢;clear hd d2;go_wp2_with ((go_at_call 28;(with_reducible refine HMW.out.mono ?_);rintro e w6 ⟨⟨A6,c6,rfl,hr6⟩,hB6⟩;have HR6:=hid hr6;clear hr6))
       exact K_at (HK.out (.slice A6 ml c6) w6 (fun W2 h2=>⟨A6,c6,rfl,HR6.out.ext' h2⟩) hB6) (by kernel_rfl)
      ·intro us W K HE hd HK
       obtain⟨A6,c6,d3,h8⟩:=hd 3 (by kernel_rfl)
       have hcv:=run_toStr (P:=Tryz.prog) Tryz.underlying23 Tryz.underlying5 Tryz.underlying9 h8 c6 (sg_nil _ _ h8);rw[←HMM2.out] at hcv;clear h8;dsimp only at HK⊢;rw[d3] at HK⊢;clear hd d3;go_wp2_with fail
       exact K_at (Kz HK) (by kernel_rfl)
      ·intro us W K HE hd HK
       dsimp only at HK⊢;clear hd;go_wp2_with fail
       exact K_at (Kz HK) (by kernel_rfl)
      ·intro us W K HE hd HK
       have d5:=hd 5 (by kernel_rfl)
       have cc:W.cell? ⟨g20,6,none⟩=some (.string S2):=(B20.out.ext (sg_undrew HE.out)).cell 6
       dsimp only at HK⊢;rw[d5] at HK⊢;clear hd d5;go_wp2_with fail
       exact K_at (Kz HK) (by kernel_rfl)
      ·intro us W K HE hd HK
       have d1:=hd 1 (by kernel_rfl)
       have d4:=hd 4 (by kernel_rfl)
       have d6:=hd 6 (by kernel_rfl)
       dsimp only at HK⊢;rw[d1,d4,d6] at HK⊢;clear hd d1 d4 d6;go_wp2_with ((go_at_call 25;(with_reducible refine (HV2.out W (E17.out.next (sg_undrew HE.out))).mono ?_);rintro e w99 ⟨rfl,hB9⟩))
       exact K_at (HK.out (.tuple #[.int .i64 (iq:Int),.int .i64 0]) w99 (fun _ _=>rfl) hB9) (by kernel_rfl)
      ·intro us W K HE hd HK
       have d7:=hd 7 (by kernel_rfl)
       dsimp only at HK⊢;rw[d7] at HK⊢;clear hd d7;go_wp2_with fail
       exact K_at (Kz HK) (by kernel_rfl)
      ·intro us W K HE hd HK
       have d8:=hd 8 (by kernel_rfl)
       dsimp only at HK⊢;rw[d8] at HK⊢;clear hd d8;go_wp2_with fail
       exact K_at (Kz HK) (by kernel_rfl)
      ·intro us W K HE hd HK
       have d8:=hd 8 (by kernel_rfl)
       dsimp only at HK⊢;rw[d8] at HK⊢;clear hd d8;go_wp2_with fail
       exact K_at (Kz HK) (by kernel_rfl)
      ·intro us W K HE hd HK
       have d9:=hd 9 (by kernel_rfl)
       dsimp only at HK⊢;rw[d9] at HK⊢;clear hd d9;go_wp2_with fail
       exact K_at (Kz HK) (by kernel_rfl)
      ·intro us W K HE hd HK
       have d10:=hd 10 (by kernel_rfl)
       dsimp only at HK⊢;rw[d10] at HK⊢;clear hd d10;go_wp2_with fail
       exact K_at (Kz HK) (by kernel_rfl)
     ·intro us W hE hd
      try dsimp only
      have d11:=hd 11 (by decide)
      have d12:=hd 12 (by decide)
      simp only[List.drop_succ_cons,List.drop_zero]
      rw[d11,d12];have E18:=hid (sg_undrew hE);clear hd hE d11 d12;obtain⟨w18,rfl⟩:∃x:World,x=W:=⟨_,rfl⟩
      have KX:=hid (JX.out.ext E18.out);have KR:=hid (JR.out.ext E18.out);have K19:=hid (J19.out.ext E18.out);have EW18:Hid (Ext w w18):=hid (EW17.out.next E18.out);have E138:Hid (Ext w13 w18):=hid (E137.out.next E18.out);clear JX JR J19 HM2 HV2 PV7 B20;by_cases hmn:iq=nv
      ·have hb1:((iq:Int) != (nv:Int))=false:=by rw[bne_eq_false_iff_eq];exact_mod_cast hmn
       have hb2:(iq != nv)=false:=by rw[bne_eq_false_iff_eq];exact hmn
       have hsum:4<sq+qs:=by have h1:=HIQ.out;have h2:=HNV.out;omega
       have hs1:decide ((4:Int)<(sq:Int)+(qs:Int))=true:=decide_eq_true (by omega)
       have hs2:decide (4<sq+qs)=true:=decide_eq_true hsum;clear hmn
       go_wp2_with (first
        | (refine wpList_load_want (by rfl) 28 (.tmp 10) rfl g10 (by kernel_rfl) KX.out Tryz.underlying28 rfl (info_rev.trans (congrArg some LX.out.symm)) ?_)
        | (go_at_call 20;(with_reducible refine (HRV1.out w18 E138.out).mono ?_);rintro e w19 ⟨rfl,hE⟩;have EW19:=hid (EW18.out.next hE);have q1:w19.cell? ⟨g19,1,none⟩=some (.int .i64 (sq:Int)):=(K19.out.ext hE).cell 1;have q2:w19.cell? ⟨g7,1,none⟩=some (.int .i64 (qs:Int)):=(by rw[←HQS.out];exact (KR.out.ext hE).cell 1);clear hE)
        | (go_at_call 14;(with_reducible refine (CL.out _).mono ?_);rintro e w20 ⟨rfl,hE⟩;have EW20:=hid (EW19.out.next hE);clear hE))
       go_ret
       exact⟨rfl,EW20.out⟩
      ·have hb1:((iq:Int) != (nv:Int))=true:=by rw[bne_iff_ne];exact_mod_cast hmn
       have hb2:(iq != nv)=true:=by rw[bne_iff_ne];exact hmn
       clear hmn
       go_wp2_with (first
        | (refine wpList_load_want (by rfl) 28 (.tmp 10) rfl g10 (by kernel_rfl) KX.out Tryz.underlying28 rfl (info_rev.trans (congrArg some LX.out.symm)) ?_)
        | (go_at_call 20;(with_reducible refine (HRV1.out w18 E138.out).mono ?_);rintro e w19 ⟨rfl,hE⟩;have EW19:=hid (EW18.out.next hE);have q1:w19.cell? ⟨g19,1,none⟩=some (.int .i64 (sq:Int)):=(K19.out.ext hE).cell 1;have q2:w19.cell? ⟨g7,1,none⟩=some (.int .i64 (qs:Int)):=(by rw[←HQS.out];exact (KR.out.ext hE).cell 1);clear hE)
        | (go_at_call 14;(with_reducible refine (CL.out _).mono ?_);rintro e w20 ⟨rfl,hE⟩;have EW20:=hid (EW19.out.next hE);clear hE))
       go_ret
       exact⟨rfl,EW20.out⟩
end
end
end Go.Proofs.YtjeecfjeooehhaaGreatDoor