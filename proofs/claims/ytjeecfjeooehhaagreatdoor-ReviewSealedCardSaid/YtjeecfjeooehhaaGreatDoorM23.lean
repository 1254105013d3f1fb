/- strings.Builder: the copy check, Write, String. No condition beyond lengths. -/
import Derived.Test.YtjeecfjeooehhaaGreatDoorM22
import Derived.Test.YtjeecfjeooehhaaGreatDoorM3
import Derived.Lib.Builder
import Derived.Lib.UnsafeStr
import Derived.Deep.DeepCutAuto
import Derived.Deep.CutBlock
import Derived.Maps.OwnSet
import Derived.DeepKeys4
set_option linter.unusedSimpArgs false
set_option linter.unusedVariables false
set_option maxHeartbeats 16000000
set_option maxRecDepth 100000
namespace Go.Proofs.YtjeecfjeooehhaaGreatDoor
open Go.RowKit
open Lib (hid)
section
theorem bld_size:(Tryz.prog.info? 147).map (·.size)=some 2:=by kernel_rfl
theorem bld_lies:liesAt Tryz.prog Tryz.prog.depth 147 (2 / Tryz.prog.cellsOf 147) 0 147 1=true:=by kernel_rfl
theorem copyCheck_used (b:Nat)(w:World)(h0:w.cell? ⟨b,0,none⟩=some (.pointer (some ⟨b,0,none⟩))) :
  Calls Tryz.prog 130 #[.pointer (some ⟨b,0,none⟩)] w fun e w'=>e=.returned (.tuple #[])∧w=w':=by
 go_enter Tryz.func130,Tryz.ntmps130
 obtain⟨j,hj,hjs⟩:=Option.map_eq_some_iff.1 bld_size;have hpq:=Lib.run_neq_ptr_same (P:=Tryz.prog) w ⟨b,0,none⟩ Tryz.underlying145 hj;go_wp2_with fail
 go_end0
 exact⟨rfl,rfl⟩
theorem copyCheck_fresh (b:Nat)(v:Value)(w:World)(hb:Blk w b 147 [.pointer none,v]) :
  Calls Tryz.prog 130 #[.pointer (some ⟨b,0,none⟩)] w fun e w'=>e=.returned (.tuple #[])∧w'=w.setCell ⟨b,0,none⟩ (.pointer (some ⟨b,0,none⟩)):=by
 obtain⟨j,hj,hjs⟩:=Option.map_eq_some_iff.1 bld_size;have h0:w.cell? ⟨b,0,none⟩=some (.pointer none):=hb.cell 0
 have hfz:=hb.frozen 0
 have hsh:w.shape? b=some (147,2):=by
  have h:=hb;unfold Blk at h;simp [World.shape?,h]
 go_enter Tryz.func130,Tryz.ntmps130
 have hcv1:=Lib.run_to_unsafe (P:=Tryz.prog) w ⟨b,0,none⟩ Tryz.underlying145 Tryz.underlying221 hj (by rw[hjs];decide) hsh (Nat.zero_lt_succ 1)
 have hcv2:=Lib.run_from_unsafe (P:=Tryz.prog) w ⟨b,0,none⟩ Tryz.underlying221 Tryz.underlying145 hj hsh bld_lies;go_wp2_with fail
 rw[run_callFunc_extern Tryz.func160 (by kernel_rfl) (by kernel_rfl) (by kernel_rfl) (e:=Extern.AbiNoEscape.same) (by kernel_rfl)]
 rw[Lib.run_noEscape];simp only[Result.andThen]
 rw[Oper.upon_value];go_wp2_with fail
 go_end0
 exact⟨rfl,rfl⟩
theorem copyCheck_any (b:Nat)(p:Option Addr)(v:Value)(w:World)(hb:Blk w b 147 [.pointer p,v])(hp:p=none∨p=some ⟨b,0,none⟩) :
  Calls Tryz.prog 130 #[.pointer (some ⟨b,0,none⟩)] w fun e w'=>e=.returned (.tuple #[])∧Blk w' b 147 [.pointer (some ⟨b,0,none⟩),v]∧Kept (fun x=>x=b) w w':=by
 rcases hp with rfl|rfl
 ·refine (copyCheck_fresh b v w hb).mono ?_
  rintro e w' ⟨rfl,rfl⟩
  exact⟨rfl,hb.set 0 _,Kept.setCell (F:=fun x=>x=b) (p:=⟨b,0,none⟩) w rfl _⟩
 ·refine (copyCheck_used b w (hb.cell 0)).mono ?_
  rintro e w' ⟨rfl,rfl⟩
  exact⟨rfl,hb,Kept.refl _ _⟩
def Bld (base:Nat)(w:World)(b:Nat)(L:List Int):Prop:=base≤b∧∃p A c,(p=none∨p=some ⟨b,0,none⟩)∧Blk w b 147 [.pointer p,.slice A L.length c]∧w.ownsRow base 5 1 (.slice A L.length c) L.length (u8s L)∧(Value.slice A L.length c).ownBlock≠some b
theorem Bld.fresh (base:Nat)(w:World)(h:base≤w.heap.size):Bld base (w.alloc (.cells #[.pointer none,.slice none 0 0] 147)) w.heap.size [] :=
 ⟨h,none,none,0,Or.inl rfl,Blk.fresh _ _ _,World.ownsRow_nil _ _ _ _,fun h=>by cases h⟩
theorem Bld.ext {base:Nat}{w w':World}{b:Nat}{L:List Int}(h:Bld base w b L)(hE:Ext w w'):Bld base w' b L:=by
 obtain⟨h0,p,A,c,hp,hb,ho,hn⟩:=h;exact⟨h0,p,A,c,hp,hb.ext hE,(Kept.of_ext (F:=fun _=>False) hE).own ho (fun _ _ h=>h),hn⟩
theorem rd_off {w w':World}{b:Nat}{p':Option Addr}{A:Option Addr}{n c:Nat}{B:Option Addr}{k:Nat}{X:List Int}(hb:Blk w b 147 [.pointer p',.slice A n c])(hk:Kept (fun x=>x=b) w w')(hx:Rd w w.heap.size B k (u8s X)):Rd w' w'.heap.size B k (u8s X):=by
 refine⟨hx.1,fun h0=>?_⟩
 obtain⟨g,o,hA,hg,hc⟩:=hx.2 h0;refine⟨g,o,hA,Nat.lt_of_lt_of_le hg hk.size,fun j u hj=>?_⟩
 have h1:=hc j u hj;refine (hk.cell (p:=⟨g,o+j,none⟩) hg (fun e=>?_)).trans h1
 have e:g=b:=e;subst e;rw[hb.cell (o+j)] at h1
 have hu:∃x,u=.int .u8 x:=by
  simp only[u8s,List.getElem?_map,Option.map_eq_some_iff] at hj
  obtain⟨x,_,rfl⟩:=hj;exact⟨x,rfl⟩
 obtain⟨x,rfl⟩:=hu;obtain⟨q,hq⟩:∃q,q=o+j:=⟨_,rfl⟩
 rw[←hq] at h1;rcases q with _|_|q
 ·simp at h1
 ·simp at h1
 ·simp at h1
theorem own_ne {w:World}{g:Nat}{t e:TypeId}{cs:List Value}{base size n:Nat}{v:Value}{xs:List Value}(hb:Blk w g t cs)(ho:w.ownsRow base e size v n xs)(he:e≠t):v.ownBlock≠some g:=fun h=>by
 rcases ho.2 with ⟨h1,_⟩|⟨g',cap,cur,rfl,h1,h2,_⟩
 ·rw[h1] at h;cases h
 ·injection h with h
  subst h;unfold Blk at hb;rw[hb] at h2;injection h2 with h2
  injection h2 with _ h2 _
  exact he h2.symm
theorem sg_ext {w0 w w':World}{F:Nat→Prop}(h:Ext w0 w)(k:Kept F w w')(hF:∀b,F b→w0.heap.size≤b):Ext w0 w' :=
 ((Kept.of_ext (F:=F) h).trans k).ext hF
theorem write_any (base b:Nat)(L X:List Int)(B:Option Addr)(k d:Nat)(w w0:World)(hS:Bld base w b L)(hx:Rd w w.heap.size B k (u8s X))(hlen:L.length+k≤1000000000)(hb0:base=w0.heap.size)(hE:Ext w0 w) :
  Calls Tryz.prog 92 #[.pointer (some ⟨b,0,none⟩),.slice B k d] w fun e w'=>e=.returned (.tuple #[.int .i64 k,.nilIface])∧Bld base w' b (L++X)∧Ext w0 w'∧∀g t cs,g≠b→t≠5→Blk w g t cs→Blk w' g t cs:=by
 obtain⟨i0,hi,hz0,hz1,hz2⟩:=info_parts winfo_u8;obtain⟨h0,p,A,c,hp,hb,ho,hn⟩:=hS;have hxl:X.length=k:=by simpa [u8s] using hx.1
 have HO:=hid ho;have HX:=hid hx;have HN:=hid hn;have HE:=hid hE;have HC:=hid (copyCheck_any b p _ w hb hp);have HB0:=hid hb;have HXL:=hid hxl;obtain⟨n,hnl⟩:∃n,n=L.length:=⟨_,rfl⟩
 rw[←hnl] at HO HN HC HB0 hlen;have HNL:=hid hnl;clear hb ho hx hn hE hp hxl hnl;go_enter Tryz.func92,Tryz.ntmps92
 go_upto_region 2 with ((go_at_call 130;(with_reducible refine HC.out.mono ?_);rintro e w1 ⟨rfl,hb1,hk1⟩;have HB1:=hid hb1;have HK1:=hid hk1;clear hb1 hk1))
 have HX1:Hid (Rd w1 w1.heap.size B k (u8s X)):=hid (rd_off HB0.out HK1.out HX.out);have HO1:Hid (w1.ownsRow base 5 1 (.slice A n c) n (u8s L)):=hid (HK1.out.own HO.out (fun x hx he=>HN.out (by rw[hx,he])))
 have hs1:=HK1.out.size;have hsE:=HE.out.size;have c1:w1.cell? ⟨b,1,none⟩=some (.slice A n c):=HB1.out.cell 1
 go_wp2_with (at_builtin;refine wpList_app rfl (.tmp 12) (.tmp 13) 23 rfl base 5 i0 (.int .u8 0) 1 1 Tryz.underlying23 hi hz0 hz1 hz2 rfl (by omega) A n c (u8s L) rfl HO1.out w1.heap.size B k d (u8s X) rfl (RdN.of_Rd HX1.out) (u8s_one _) (by simp only[maxLen];omega) (by omega) (by omega) ?_;rw[←u8s_append];intro A7 c7 w7 o7 hg7;have B7:=hid (HB1.out.grown hg7 (fun e=>HN.out e.symm));have O7:=hid o7;have G7:=hid hg7;have e7:w7.cell? ⟨b,1,none⟩=some (.slice A n c):=B7.out.cell 1;have f7:=B7.out.frozen 1;clear o7 hg7 c1)
 go_ret2
 have K7:Kept (fun x=>base≤x) w1 w7:=Kept.of_grown G7.out (fun x hx _=>by have:=(HO1.out.lt x hx).1;omega)
 have K8:Kept (fun x=>x=b) w7 (w7.setCell ⟨b,1,none⟩ (.slice A7 (n+k) c7)):=Kept.setCell (F:=fun x=>x=b) (p:=⟨b,1,none⟩) w7 rfl _
 have hL:(L++X).length=n+k:=by rw[List.length_append,HXL.out,HNL.out]
 have hne:(Value.slice A7 (n+k) c7).ownBlock≠some b:=own_ne B7.out O7.out (by decide)
 refine⟨rfl,⟨h0,some ⟨b,0,none⟩,A7,c7,Or.inr rfl,?_,?_,?_⟩,?_,fun g t cs hgb ht hg=>?_⟩
 ·rw[hL];exact B7.out.set 1 _
 ·rw[hL];exact K8.own O7.out (fun x hx he=>hne (by rw[hx,he]))
 ·rw[hL];exact hne
 ·exact sg_ext HE.out (((HK1.out.mono (fun x _ hx=>by rw[hx];exact h0)).trans K7).trans (K8.mono (fun x _ hx=>by rw[hx];exact h0))) (fun x hx=>by rw[←hb0];exact hx)
 ·have g1:=HK1.out.blk hg hgb
  exact K8.blk (g1.grown G7.out (fun e=>own_ne g1 HO1.out (Ne.symm ht) e.symm)) hgb
theorem cells_u8:Tryz.prog.cellsOf 5=1:=by kernel_rfl
theorem strOf_size' (L:List Int):(strOf L).data.toList.length=L.length:=by simp [strOf]
theorem string_any (base b:Nat)(L:List Int)(w w0:World)(hS:Bld base w b L)(hB:Byt L)(h0:0<L.length)(hlen:L.length≤1000000000)(hb0:base=w0.heap.size)(hE:Ext w0 w) :
  Calls Tryz.prog 94 #[.pointer (some ⟨b,0,none⟩)] w fun e w'=>e=.returned (.string (strOf L))∧Ext w0 w'∧∀t cs,t≠5→Blk w base t cs→Blk w' base t cs:=by
 obtain⟨hbb,p,A,c,hp,hb,ho,hn⟩:=hS;obtain⟨l,hl⟩:∃l,l=(strOf L).data.toList:=⟨_,rfl⟩
 have hll:l.length=L.length:=by rw[hl];exact strOf_size' L
 have hls:strOf L=⟨l.toArray⟩:=by rw[hl]
 obtain⟨g,cap,cur,hA,hbg,hg,hnc,hcm,hcs,htake⟩:∃g cap cur,Value.slice A L.length c=.slice (some ⟨g,0,none⟩) L.length cap∧base≤g∧w.heap[g]?=some (.cells cur 5 (0,0))∧L.length≤cap∧cap≤maxLen∧cur.size=cap*1∧cur.toList.take (L.length*1)=u8s L:=by
  rcases ho.2 with ⟨_,hz⟩|⟨g,cap,cur,hv,r⟩
  ·omega
  ·exact⟨g,cap,cur,hv,r⟩
 injection hA with hA1 _ hA3
 subst hA1;subst hA3;have c1:w.drew.cell? ⟨b,1,none⟩=some (.slice (some ⟨g,0,none⟩) L.length c):=hb.cell 1
 have hSD:(Builtin.unsafeSliceData_ #[23] 186 #[.slice (some ⟨g,0,none⟩) L.length c]).run Tryz.prog w.drew=.ok (.pointer (some ⟨g,0,none⟩)) w.drew :=
  Lib.run_unsafeSliceData_row _ _ _ _ _ _ (by omega)
 have hUS:(Builtin.unsafeString_ #[186,3] 9 #[.pointer (some ⟨g,0,none⟩),.int .i64 L.length]).run Tryz.prog w.drew=.ok (.string ⟨l.toArray⟩) (w.drew.freeze ⟨g,0,none⟩ l.length):=by
  rw[←hll];refine Lib.run_unsafeString_row w.drew 186 3 9 5 Tryz.underlying186 cells_u8 g cur.size (by have hg':w.drew.heap[g]?=some (.cells cur 5 (0,0)):=hg;simp [World.shape?,hg']) l (by intro h;rw[h] at hll;simp at hll;omega) (by omega) (by omega) ?_
  intro j x hx;refine ho.cells (g:=g) rfl j (.int .u8 x.toNat) ?_
  have e1:u8s L=u8s (bys (strOf L)):=by rw[bys_strOf L hB]
  rw[e1];simp only[u8s,bys,List.map_map,List.getElem?_map,←hl,hx]
  rfl
 rw[hls];have HE:=hid hE;have HG:=hid hg;clear hE hl hls hb ho hg htake hn hp;go_enter Tryz.func94,Tryz.ntmps94
 go_wp2_with fail
 go_region
 all_goals (go_wp2_with fail;go_ret;exact⟨rfl,Lib.below_freeze (Below.drew HE.out) (p:=⟨g,0,none⟩) (by rw[←hb0];exact hbg) _,fun t cs ht hB=>by
  have hne:g≠base:=fun e=>by
   subst e;have h2:=HG.out;unfold Blk at hB;rw[hB] at h2;injection h2 with h2
   injection h2 with _ h2 _
   exact ht h2
  exact ((Lib.below_freeze (Below.drew (Below.refl (base+1) w)) (p:=⟨g,0,none⟩) (show base+1≤g by omega) _).block base (Nat.lt_succ_self _)).trans hB⟩)
end
section
def topD (seed:ByteArray)(k c:Int):List Int:=advD k c 0 3 (startD seed k c)
theorem topD_dig (seed:ByteArray)(k c:Int):Dig (topD seed k c):=advD_dig (startD_dig _ _ _) 3
theorem chain_any (seed:ByteArray)(k ch:Int)(kb sb:Nat)(w:World)(hs:seed.size≤1000000)(hk:I64 k)(hc:I64 ch)(hK:KTab w)(h1:w.cell? ⟨kb,0,none⟩=some (.int .i64 k))(h2:w.cell? ⟨sb,0,none⟩=some (.string seed))(b1:kb<w.heap.size)(b2:sb<w.heap.size) :
  Calls Tryz.prog 129 #[.int .i64 ch,.pointer (some ⟨kb,0,none⟩),.pointer (some ⟨sb,0,none⟩)] w fun e w'=>e=.returned (.agg (u8s (topD seed k ch)).toArray)∧Ext w w':=by
 have HK:=hid hK;have H1:=hid h1;have H2:=hid h2;have HST:Hid (∀W,KTab W→Calls Tryz.prog 93 #[.string seed,.int .i64 k,.int .i64 ch] W fun e w'=>e=.returned (.agg (u8s (startD seed k ch)).toArray)∧Ext W w'):=hid (fun W hW=>start_any seed k ch W hs hk hc hW)
 have HAD:Hid (∀W,KTab W→Calls Tryz.prog 60 #[.int .i64 k,.int .i64 ch,.int .i64 0,.int .i64 3,.agg (u8s (startD seed k ch)).toArray] W fun e w'=>e=.returned (.agg (u8s (topD seed k ch)).toArray)∧Ext W w'):=hid (fun W hW=>advance_any k ch 0 3 (startD seed k ch) W hk hc (by decide) (by decide) (startD_dig _ _ _) hW)
 have HTL:Hid ((topD seed k ch).length=16):=hid (topD_dig _ _ _).l;clear hK h1 h2;generalize startD seed k ch=D1 at *
 generalize topD seed k ch=D2 at *
 go_enter Tryz.func129,Tryz.ntmps129
 go_upto_region 1 with fail
 obtain⟨w3,hw3⟩:∃x,x=w.alloc (.cells (u8s (List.replicate 16 0)).toArray 26):=⟨_,rfl⟩
 change Code.wp _ _ _ _ (w.alloc (.cells (u8s (List.replicate 16 0)).toArray 26))
 rw[←hw3];have BZ:Hid (Blk w3 w.heap.size 26 (u8s (List.replicate 16 0))):=hid (by rw[hw3];exact Blk.fresh' _ _ _ _ _ rfl rfl)
 have E3:Hid (Ext w w3):=hid (by rw[hw3];exact (Ext.refl w).alloc _)
 clear hw3
 refine wp_region_flowG 7 ?FW1 (fun us=>?_) (by kernel_rfl) (by kernel_rfl) (fun a b=>Ext a b) Ext.refl (fun h1 h2=>h1.next h2) (fun i v W=>match i with
  | 0=>v=.int .i64 k
  | 1=>v=.int .i64 ch
  | 2=>v=.string seed
  | 3=>v=.int .i64 k
  | 4=>v=.int .i64 ch
  | 5=>v=.agg (u8s D1).toArray
  | 6=>v=.agg (u8s D2).toArray
  | _=>True) ?_ ?_
 case refine_1 =>
  simp only[List.take_succ_cons,List.take_zero,flowAct,Nat.zero_add,Nat.reduceAdd,Act.put,List.setIfInBounds_toArray,List.set_cons_succ,List.set_cons_zero]
  rfl
 ·simp only[List.take_succ_cons,List.take_zero,flowStepsG]
  refine⟨?_,?_,?_,?_,?_,?_,?_,trivial⟩
  ·intro us W K HE hd HK
   have xk:=((E3.out.next (sg_udrew HE.out)).cell (p:=⟨kb,0,none⟩) b1).trans H1.out;dsimp only at HK⊢;clear hd;go_wp2_with fail
   exact K_at (Kz HK) (by kernel_rfl)
  ·intro us W K HE hd HK
   dsimp only at HK⊢;clear hd;go_wp2_with fail
   exact K_at (Kz HK) (by kernel_rfl)
  ·intro us W K HE hd HK
   have xs:=((E3.out.next (sg_udrew HE.out)).cell (p:=⟨sb,0,none⟩) b2).trans H2.out;dsimp only at HK⊢;clear hd;go_wp2_with fail
   exact K_at (Kz HK) (by kernel_rfl)
  ·intro us W K HE hd HK
   have xk:=((E3.out.next (sg_udrew HE.out)).cell (p:=⟨kb,0,none⟩) b1).trans H1.out;dsimp only at HK⊢;clear hd;go_wp2_with fail
   exact K_at (Kz HK) (by kernel_rfl)
  ·intro us W K HE hd HK
   dsimp only at HK⊢;clear hd;go_wp2_with fail
   exact K_at (Kz HK) (by kernel_rfl)
  ·intro us W K hE hd hK
   have d2:=hd 2 (by kernel_rfl)
   have d3:=hd 3 (by kernel_rfl)
   have d4:=hd 4 (by kernel_rfl)
   have KW:=hid (HK.out.below (E3.out.next (sg_udrew hE.out)));dsimp only at hK⊢;rw[d2,d3,d4] at hK⊢;have HK:=hK;have HE:=hE;clear hK hd hE d2 d3 d4;go_wp2_with ((go_at_call 93;(with_reducible refine (HST.out W KW.out).mono ?_);rintro e w6 ⟨rfl,hB6⟩))
   exact K_at (HK.out (.agg (u8s D1).toArray) w6 (fun _ _=>rfl) hB6) (by kernel_rfl)
  ·intro us W K hE hd hK
   have d0:=hd 0 (by kernel_rfl)
   have d1:=hd 1 (by kernel_rfl)
   have d5:=hd 5 (by kernel_rfl)
   have KW:=hid (HK.out.below (E3.out.next (sg_udrew hE.out)));dsimp only at hK⊢;rw[d0,d1,d5] at hK⊢;have HK:=hK;have HE:=hE;clear hK hd hE d0 d1 d5;go_wp2_with ((go_at_call 60;(with_reducible refine (HAD.out W KW.out).mono ?_);rintro e w6 ⟨rfl,hB6⟩))
   exact K_at (HK.out (.agg (u8s D2).toArray) w6 (fun _ _=>rfl) hB6) (by kernel_rfl)
 ·intro us W hE hd
  try dsimp only
  have d6:=hd 6 (by decide)
  simp only[List.drop_succ_cons,List.drop_zero]
  rw[d6];have EW:=hid (sg_udrew hE);have BZ2:=hid (BZ.out.ext EW.out);clear hd hE d6;go_wp2_with (refine wpList_store_blk rfl 26 (.tmp 4) (.tmp 11) (by rfl) w.heap.size (u8s D2) rfl rfl BZ2.out (dg_info.trans (congrArg some (by rw[u8s_len,HTL.out]))) (by rw[u8s_len,u8s_len,HTL.out];rfl) (u8s_one _) ?_;intro w9 hw9 hb9)
  exact bodyPost_ret (results_blk Tryz.results129 _ _ w.heap.size 26 (u8s D2) _ rfl hb9 Tryz.underlying26 rfl (dg_info.trans (congrArg some (by rw[u8s_len,HTL.out])))) rfl ⟨rfl,by rw[hw9.out];exact (E3.out.next EW.out).setRow (Nat.le_refl _) _⟩
def flatD (val:Nat→List Int)(t:Nat):List Int:=(List.range t).flatMap val
def leafD (val:Nat→List Int):List Int:=ofD 1 [strOf (ofD 3 [strOf (flatD val 68)])]
theorem flatD_succ (val:Nat→List Int)(t:Nat):flatD val (t+1)=flatD val t++val t:=by
 unfold flatD;rw[List.range_succ,List.flatMap_append];simp
theorem flatD_len (val:Nat→List Int){t:Nat}(h:∀j,j<t→Dig (val j)):(flatD val t).length=16*t:=by
 induction t with
 | zero=>rfl
 | succ t ih=>rw[flatD_succ,List.length_append,ih (fun j hj=>h j (by omega)),(h t (by omega)).l];omega
theorem flatD_byt (val:Nat→List Int){t:Nat}(h:∀j,j<t→Dig (val j)):Byt (flatD val t):=by
 induction t with
 | zero=>exact fun x hx=>by simp [flatD] at hx
 | succ t ih=>rw[flatD_succ];exact (ih (fun j hj=>h j (by omega))).app (h t (by omega)).b
theorem rd_str1 (W:World)(s:ByteArray):Rd (W.alloc (.cells #[.string s] 9)) (W.alloc (.cells #[.string s] 9)).heap.size (some ⟨W.heap.size,0,none⟩) 1 (strs [s]):=(Blk.fresh W 9 [.string s]).rd rfl
theorem leaf28_any (val:Nat→List Int)(kb sb:Nat)(w:World)(hv:∀t,t<68→Dig (val t))(hF:∀t:Nat,t<68→∀W,Ext w W→Calls Tryz.prog 129 #[.int .i64 (t:Int),.pointer (some ⟨kb,0,none⟩),.pointer (some ⟨sb,0,none⟩)] W fun e w'=>e=.returned (.agg (u8s (val t)).toArray)∧Ext W w')(hK:KTab w) :
  Calls Tryz.prog 58 #[.func (.func 129) #[] #[.pointer (some ⟨kb,0,none⟩),.pointer (some ⟨sb,0,none⟩)]] w fun e w'=>e=.returned (.agg (u8s (leafD val)).toArray)∧Ext w w':=by
 have HK:=hid hK;have HF:=hid hF;have HV:=hid hv;have zz:∀W,(zeroValue 26).run Tryz.prog W=.ok (.agg (u8s (List.replicate 16 0)).toArray) W:=fun W=>by kernel_rfl
 obtain⟨Z,hZ⟩:∃Z,Z=u8s (List.replicate 16 0):=⟨_,rfl⟩
 have HZL:Hid (Z.length=16):=hid (by rw[hZ];rfl)
 rw[←hZ] at zz;clear hK hF hv hZ;go_enter Tryz.func58,Tryz.ntmps58
 go_upto_region 2 with fail
 obtain⟨w3,hw3⟩:∃x,x=(w.alloc (.cells Z.toArray 26)).alloc (.cells #[.pointer none,.slice none 0 0] 147):=⟨_,rfl⟩
 change Code.wp _ _ _ _ ((w.alloc (.cells Z.toArray 26)).alloc (.cells #[.pointer none,.slice none 0 0] 147))
 rw[←hw3];have BZ:Hid (Blk w3 w.heap.size 26 Z):=hid (by rw[hw3];exact (Blk.fresh' _ _ _ _ _ rfl rfl).alloc _)
 have BB:Hid (Bld w.heap.size w3 (w.heap.size+1) (flatD val 0)):=hid (by rw[hw3];have h:=Bld.fresh w.heap.size (w.alloc (.cells Z.toArray 26)) (by simp);rw[World.size_alloc] at h;exact h)
 have E3:Hid (Ext w w3):=hid (by rw[hw3];exact ((Ext.refl w).alloc _).alloc _)
 clear hw3;go_wp2_with fail
 go_loopw [7] (fun x wr=>∃t:Nat,t≤68∧x=.int .i64 (t:Int)∧Bld w.heap.size wr (w.heap.size+1) (flatD val t)∧Blk wr w.heap.size 26 Z∧Ext w wr) (fun x _=>68-(intOf x).toNat)
 case atStart=>exact⟨0,by omega,rfl,BB.out,BZ.out,E3.out⟩
 case round =>
  clear BB BZ E3;obtain⟨t,ht,rfl,hbb,hbz,hE⟩:=hrel;have BB:=hid hbb;have BZ:=hid hbz;have E3:=hid hE;clear hbb hbz hE;obtain⟨wo,rfl⟩:∃x:World,x=wr:=⟨_,rfl⟩
  by_cases hlt:t<68
  ·have HC:=hid (HF.out t hlt wo E3.out)
   have HFS:Hid (flatD val (t+1)=flatD val t++val t):=hid (flatD_succ val t);have HFL:Hid ((flatD val t).length=16*t):=hid (flatD_len val (fun j hj=>HV.out j (by omega)))
   have HD:=hid (HV.out t hlt);obtain⟨U,hU⟩:∃U,U=val t:=⟨_,rfl⟩
   have HU:=hid hU;have HUL:Hid ((u8s U).length=16):=hid (by rw[hU,u8s_len];exact HD.out.l)
   rw[←hU] at HC;clear hU
   go_wp2_with (first
    | (go_at_call 129;(with_reducible refine HC.out.mono ?_);rintro e w5 ⟨rfl,hE5⟩;have E5:=hid hE5;clear hE5)
    | ((refine wpList_store_fresh rfl 26 (.tmp 5) (.tmp 12) rfl _ w5.heap.size rfl Z (u8s U) 26 (by rfl) (by rfl) rfl (dg_info.trans (congrArg some HUL.out.symm)) (HZL.out.trans HUL.out.symm) (u8s_one U) ?_);intro w6 hw6 hE6 hz6;have E6:Hid (Ext wo w6):=hid (E5.out.next hE6);have B6:=hid hw6;have HW:=hid (write_any w.heap.size (w.heap.size+1) (flatD val t) U (some ⟨w5.heap.size,0,none⟩) 16 16 w6 w (BB.out.ext E6.out) (B6.out.rd HUL.out) (by rw[HFL.out];omega) rfl (E3.out.next E6.out));have HZ6:=hid (BZ.out.ext E6.out);clear hw6 hE6 hz6)
    | (go_at_call 92;(with_reducible refine HW.out.mono ?_);rintro e w7 ⟨rfl,hB7,hE7,hK7⟩;have HB7:=hid hB7;have E7:=hid hE7;have Z7:=hid (hK7 _ _ _ (by omega) (by decide) HZ6.out);clear hB7 hE7 hK7))
   exact⟨⟨t+1,by omega,by go_num,by rw[HFS.out,←HU.out];exact HB7.out,Z7.out,E7.out⟩,by simp [intOf];omega⟩
  ·obtain rfl:t=68:=by omega
   obtain⟨F,hF⟩:∃F,F=flatD val 68:=⟨_,rfl⟩
   have HFL:Hid (F.length=1088):=hid (by rw[hF];exact flatD_len val (fun j hj=>HV.out j hj))
   have HFB:Hid (Byt F):=hid (by rw[hF];exact flatD_byt val (fun j hj=>HV.out j hj))
   obtain⟨U,hU⟩:∃U,U=ofD 3 [strOf F]:=⟨_,rfl⟩
   obtain⟨V,hV⟩:∃V,V=ofD 1 [strOf U]:=⟨_,rfl⟩
   have HLV:Hid (V=leafD val):=hid (by rw[hV,hU,hF];rfl)
   have HU:Hid (U=ofD 3 [strOf F]):=hid hU;have HV2:Hid (V=ofD 1 [strOf U]):=hid hV;have HUD:Hid (Dig U):=hid (by rw[hU];exact ofD_dig _ _)
   have HUL:Hid ((u8s U).length=16):=hid (by rw[u8s_len];exact HUD.out.l)
   have HVL:Hid ((u8s V).length=16):=hid (by rw[hV,u8s_len];exact ofD_len _ _)
   have HEN1:Hid ((encs [strOf F]).length≤100000000000):=hid (by
    have h:=sg_encB_le (strOf F) (by rw[strOf_size,HFL.out];decide)
    rw[strOf_size,HFL.out] at h;simp only[encs,List.append_nil]
    omega)
   have HEN2:Hid ((encs [strOf U]).length≤100000000000):=hid (by
    have h:=sg_encB_le (strOf U) (by rw[dig_size HUD.out];decide)
    rw[dig_size HUD.out] at h;simp only[encs,List.append_nil]
    omega)
   rw[←hF] at BB;have HSTR:=hid (string_any w.heap.size (w.heap.size+1) F wo w BB.out HFB.out (by rw[HFL.out];decide) (by rw[HFL.out];decide) rfl E3.out)
   clear hF hU hV BB;have HO1:Hid (∀W,Ext w W→Calls Tryz.prog 106 #[.int .i64 3,.slice (some ⟨W.heap.size,0,none⟩) 1 1] (W.alloc (.cells #[.string (strOf F)] 9)) fun e w'=>e=.returned (.agg (u8s U).toArray)∧Ext W w'):=hid (fun W hW=>(of_any 3 [strOf F] (some ⟨W.heap.size,0,none⟩) 1 1 _ (rd_str1 W _) (by decide) HEN1.out (HK.out.below (hW.alloc _))).mono fun e w' h=>⟨by rw[h.1,HU.out];rfl,((Ext.refl W).alloc _).next h.2⟩)
   have HO2:Hid (∀W,Ext w W→Calls Tryz.prog 106 #[.int .i64 1,.slice (some ⟨W.heap.size,0,none⟩) 1 1] (W.alloc (.cells #[.string (strOf U)] 9)) fun e w'=>e=.returned (.agg (u8s V).toArray)∧Ext W w'):=hid (fun W hW=>(of_any 1 [strOf U] (some ⟨W.heap.size,0,none⟩) 1 1 _ (rd_str1 W _) (by decide) HEN2.out (HK.out.below (hW.alloc _))).mono fun e w' h=>⟨by rw[h.1,HV2.out];rfl,((Ext.refl W).alloc _).next h.2⟩)
   have HCV:Hid (∀W g,Blk W g 26 (u8s U)→(convert 23 9 (.slice (some ⟨g,0,none⟩) 16 16)).run Tryz.prog W=.ok (.string (strOf U)) W):=hid (fun W g hB=>run_toStr (P:=Tryz.prog) Tryz.underlying23 Tryz.underlying5 Tryz.underlying9 (hB.rd HUL.out) 16 (fun h=>by cases h))
   go_wp2_with (first
    | (go_at_call 94;(with_reducible refine HSTR.out.mono ?_);rintro e w5 ⟨rfl,hE5,hZ5⟩;have E5:=hid hE5;have Z5:=hid (hZ5 _ _ (by decide) BZ.out);have HOA:=hid (HO1.out w5 hE5);clear hE5 hZ5)
    | (go_at_call 106;(with_reducible refine HOA.out.mono ?_);rintro e w6 ⟨rfl,hE6⟩;have E6:Hid (Ext w5 w6):=hid hE6;clear hE6)
    | ((refine wpList_store_fresh rfl 26 (.tmp 6) (.tmp 18) rfl _ w6.heap.size rfl Z (u8s U) 26 (by rfl) (by rfl) rfl (dg_info.trans (congrArg some HUL.out.symm)) (HZL.out.trans HUL.out.symm) (u8s_one U) ?_);intro w7 hw7 hE7 hz7;have E7:Hid (Ext w w7):=hid (E5.out.next (E6.out.next hE7));have hcv:=HCV.out w7 _ hw7;have Z7:=hid (Z5.out.ext (E6.out.next hE7));have HOB:=hid (HO2.out w7 E7.out);clear hw7 hE7 hz7)
    | (go_at_call 106;(with_reducible refine HOB.out.mono ?_);rintro e w8 ⟨rfl,hE8⟩;have E8:Hid (Ext w w8):=hid (E7.out.next hE8);have Z8:=hid (Z7.out.ext hE8);clear hE8)
    | (refine wpList_store_blk rfl 26 (.tmp 2) (.tmp 22) (by rfl) w.heap.size (u8s V) rfl rfl Z8.out (dg_info.trans (congrArg some HVL.out.symm)) (HZL.out.trans HVL.out.symm) (u8s_one _) ?_;intro w9 hw9 hb9))
   exact bodyPost_ret (results_blk Tryz.results58 _ _ w.heap.size 26 (u8s V) _ rfl hb9 Tryz.underlying26 rfl (dg_info.trans (congrArg some HVL.out.symm))) rfl ⟨by rw[HLV.out],by rw[hw9.out];exact E8.out.setRow (Nat.le_refl _) _⟩
end
section
def nodeV (seed:ByteArray):Nat→Nat→List Int
 | 0,k=>leafD (fun c=>topD seed (k:Int) (c:Int))
 | l+1,k=>nodeD (nodeV seed l (2*k)) (nodeV seed l (2*k+1))
theorem nodeV_dig (seed:ByteArray):∀l k,Dig (nodeV seed l k)
 | 0,k=>ofD_dig _ _
 | l+1,k=>ofD_dig _ _
def keyV (l k:Nat):Value:=.agg #[.int .i64 (l:Int),.int .i64 (k:Int)]
def keyN (l k:Nat):Lit:=.string (keyBytes [.int .i64 (l:Int),.int .i64 (k:Int)])
theorem keyA:Maps.Keyed Tryz.prog 184:=Maps.Keyed.of_law (deep_law (m:=2) (by decide) (by kernel_rfl) (by kernel_rfl) (by kernel_rfl))
theorem sg_i64_wf {x:Int}(h:I64 x):(Lit.int .i64 x).wf=true:=by
 unfold I64 at h;simp [Lit.wf,IntKind.min,IntKind.max,IntKind.bits,IntKind.signed]
 omega
theorem keyOf_arr {P:Program}{t e:TypeId}(ht:P.underlying t=some (.array 2 e))(he:P.underlying e=some (.int .i64))(hk:P.keyType t=true)(hc:P.cellsOf t=2)(hce:P.cellsOf e=1)(hs:0<P.types.size){v:Value}{a b:Int}(hv:v=.agg #[.int .i64 a,.int .i64 b])(hf:v.formed P t=true)(ha:(Lit.int .i64 a).wf=true)(hb:(Lit.int .i64 b).wf=true) :
  keyOf P t v=some (.string (keyBytes [.int .i64 a,.int .i64 b])):=by
 obtain⟨n,hn⟩:∃n,P.types.size=n+1:=⟨P.types.size-1,by omega⟩
 unfold keyOf;rw[ht];simp only[hk,hf,Bool.and_self,if_true]
 rw[hv,hn];simp only[Program.keyLits,ht,he,Value.cells,hc,hce,List.length_cons,List.length_nil]
 simp [List.range_succ,Program.keyLits,he,ha,hb]
theorem keyN_of {l k:Nat}(hl:l≤6)(hk:k<64):keyOf Tryz.prog 184 (keyV l k)=some (keyN l k) :=
 keyOf_arr Tryz.underlying184 Tryz.underlying3 (by kernel_rfl) (by kernel_rfl) (by kernel_rfl) (of_decide_eq_true (by kernel_rfl)) rfl (by kernel_rfl) (sg_i64_wf ⟨by omega,by omega⟩) (sg_i64_wf ⟨by omega,by omega⟩)
theorem keyN_inj {l k l' k':Nat}(hl:l≤6)(hk:k<64)(hl':l'≤6)(hk':k'<64)(h:keyN l k=keyN l' k'):l=l'∧k=k':=by
 have h1:=keyN_of hl hk;rw[h] at h1;have h2:=keyA.inj h1 (keyN_of hl' hk');unfold keyV at h2;simp at h2
 omega
def heldR (v:Value):Option (DataW Value×List MemPlace):=some (.held v,[])
def memoE (seed:ByteArray)(l k:Nat):Lit×DataW Value:=(keyN l k,.held (.agg (u8s (nodeV seed l k)).toArray))
def Memo (w:World)(seed:ByteArray)(hm:Nat):Prop :=
 ∃L:List (Lit×DataW Value),w.ownsMap Tryz.prog 184 heldR hm 448 (.map L)∧∀p∈L,∃l k:Nat,l≤6∧k<64∧p=memoE seed l k
theorem Memo.lt {w:World}{seed:ByteArray}{hm:Nat}(h:Memo w seed hm):hm<w.heap.size:=by
 obtain⟨L,h1,_⟩:=h;exact h1.lt
theorem Memo.kept {w w':World}{seed:ByteArray}{hm:Nat}{F:Nat→Prop}(hh:Memo w seed hm)(hk:Kept F w w')(hf:¬F hm):Memo w' seed hm:=by
 obtain⟨L,⟨es,clock,hb,r⟩,h2⟩:=hh;exact⟨L,⟨es,clock,(hk.block hm (Array.getElem?_eq_some_iff.1 hb).1 hf).trans hb,r⟩,h2⟩
theorem Memo.ext {w w':World}{seed:ByteArray}{hm:Nat}(hh:Memo w seed hm)(hE:Ext w w'):Memo w' seed hm:=hh.kept (Kept.of_ext (F:=fun _=>False) hE) (fun h=>h)
theorem Memo.ne_cell {w:World}{seed:ByteArray}{hm:Nat}(h:Memo w seed hm){p:Addr}{v:Value}(hc:w.cell? p=some v):p.block≠hm:=by
 rintro rfl
 obtain⟨L,⟨es,clock,hb,_⟩,_⟩:=h;unfold World.cell? at hc
 rw[hb] at hc
 cases hc
theorem Memo.made (w:World)(seed:ByteArray):Memo (w.alloc (.map #[] 0)) seed w.heap.size :=
 ⟨[],(World.ownsMap_made w _ _ _).mono (Nat.zero_le _),fun p hp=>by cases hp⟩
theorem few_of_ne {α:Type}[DecidableEq α]:∀(l S:List α),l.Pairwise (fun a b=>a≠b)→(∀x∈l,x∈S)→l.length≤S.length
 | [],_,_,_=>Nat.zero_le _
 | x::l,S,hp,hS=>by
  have hx:=hS x (by simp)
  have hp2:=List.pairwise_cons.1 hp;have h:=few_of_ne l (S.erase x) hp2.2 (fun y hy=>(List.mem_erase_of_ne (fun e=>hp2.1 y hy e.symm)).2 (hS y (by simp [hy])))
  rw[List.length_erase_of_mem hx] at h;have:=List.length_pos_of_mem hx
  simp only[List.length_cons]
  omega
def allK:List (Nat×Nat):=(List.range 7).flatMap fun l=>(List.range 64).map fun k=>(l,k)
theorem allK_mem {l k:Nat}(hl:l≤6)(hk:k<64):(l,k)∈allK:=by
 unfold allK;simp only[List.mem_flatMap,List.mem_map,List.mem_range,Prod.mk.injEq]
 exact⟨l,by omega,k,hk,rfl,rfl⟩
theorem allK_len:allK.length=448:=by kernel_rfl
theorem memo_few {seed:ByteArray}{L:List (Lit×DataW Value)}(hT:L.Pairwise (fun p q=>p.1≠q.1))(h:∀p∈L,∃l k:Nat,l≤6∧k<64∧p=memoE seed l k):L.length≤448:=by
 classical
 have h1:=few_of_ne (L.map (·.1)) (allK.map fun x=>keyN x.1 x.2) (by rw[List.pairwise_map];exact hT) (fun x hx=>by
  obtain⟨p,hp,rfl⟩:=List.mem_map.1 hx;obtain⟨l,k,hl,hk,rfl⟩:=h p hp;exact List.mem_map.2 ⟨(l,k),allK_mem hl hk,rfl⟩)
 rw[List.length_map,List.length_map,allK_len] at h1;exact h1
theorem memo_look {w:World}{seed:ByteArray}{hm:Nat}(hh:Memo w seed hm){l k:Nat}(hl:l≤6)(hk:k<64) :
  (Instr.lookup 182 (.map (some hm)) (keyV l k) true).run Tryz.prog w=.ok (.tuple #[.agg (u8s (nodeV seed l k)).toArray,.bool true]) w ∨
  ∃U:List Int,U.length=16∧(Instr.lookup 182 (.map (some hm)) (keyV l k) true).run Tryz.prog w=.ok (.tuple #[.agg (u8s U).toArray,.bool false]) w:=by
 obtain⟨L,h1,h3⟩:=hh;have hz:(zeroValue 26).run Tryz.prog w=.ok (.agg (u8s (List.replicate 16 0)).toArray) w:=by kernel_rfl
 obtain⟨v,ps,hrun,hv⟩:=h1.look_ok keyA Tryz.underlying182 hz (zd:=.held (.agg (u8s (List.replicate 16 0)).toArray)) (zp:=[]) rfl (keyN_of hl hk);simp only[heldR,Option.some.injEq,Prod.mk.injEq] at hv
 have hv1:=hv.1
 cases hc:Maps.has (.map L:DataW Value) (keyN l k) with
 | false =>
  rw[Maps.atKey_of_not_has hc] at hv1;injection hv1 with e
  rw[hc,e] at hrun;exact Or.inr ⟨_,by simp,hrun⟩
 | true =>
  rw[hc] at hrun;rw[Maps.has_eq,List.any_eq_true] at hc
  have hat:∃p,L.find? (fun p=>p.1.sameKey (keyN l k))=some p:=by
   cases hf:L.find? (fun p=>p.1.sameKey (keyN l k)) with
   | some p=>exact⟨p,rfl⟩
   | none =>
    obtain⟨p,hp,hs⟩:=hc;have:=List.find?_eq_none.1 hf p hp
    exact absurd hs this
  obtain⟨p,hf⟩:=hat;have e1:p.1=keyN l k:=WideAt.sameKey_eq (by have h:=List.find?_some hf;exact h)
  obtain⟨l',k',hl',hk',e2⟩:=h3 p (List.mem_of_find?_eq_some hf)
  have e3:keyN l' k'=keyN l k:=by rw[←e1,e2];rfl
  obtain⟨rfl,rfl⟩:=keyN_inj hl' hk' hl hk e3
  have hv2:(DataW.held v:DataW Value)=p.2:=by
   rw[hv1];simp [DataW.atKey,hf]
  rw[e2] at hv2;unfold memoE at hv2;injection hv2 with e
  rw[e] at hrun;exact Or.inl hrun
section
variable {ops:Array Oper} {rest:List Oper} {o:Oper} {a:Act} {w:World} {Q:Exit→Act→World→Prop}
theorem wpList_memo_put (hg:o.guard=none)(m x y:Operand)(hop:o.op=Op.mapUpdate 182 m x y){hm:Nat}{seed:ByteArray}(hmv:a.eval m=.map (some hm))(hh:Memo w seed hm)(l k:Nat)(hx:a.eval x=keyV l k)(hy:a.eval y=.agg (u8s (nodeV seed l k)).toArray)(hl:l≤6)(hk:k<64)
  (hK:∀w',Memo w' seed hm→Kept (fun b=>b=hm) w w'→wpList Tryz.prog ops Q rest (a.put o.dst undef) w'):wpList Tryz.prog ops Q (o::rest) a w:=by
 obtain⟨L,h1,h2⟩:=hh;refine wpList_mapUpdate_own w hg m x y 182 hop 184 26 keyA Tryz.underlying182 heldR hm 448 (.map L) hmv h1 (by decide) (keyV l k) _ (keyN l k) hx hy (keyN_of hl hk) (.held (.agg (u8s (nodeV seed l k)).toArray)) [] rfl ?_
 intro w' h4 hgr;have hT:=h4.tidy keyA
 have hP:∀p∈DataW.insert (keyN l k,(.held (.agg (u8s (nodeV seed l k)).toArray):DataW Value)) (L.filter fun p=>!p.1.sameKey (keyN l k)),∃l k:Nat,l≤6∧k<64∧p=memoE seed l k:=by
  intro p hp;rcases ChangeMaps.mem_insert_iff.1 hp with rfl|hp
  ·exact⟨l,k,hl,hk,rfl⟩
  ·exact h2 p (List.mem_filter.1 hp).1
 have e:(DataW.map L:DataW Value).put (keyN l k) (.held (.agg (u8s (nodeV seed l k)).toArray))=.map (DataW.insert (keyN l k,(.held (.agg (u8s (nodeV seed l k)).toArray):DataW Value)) (L.filter fun p=>!p.1.sameKey (keyN l k))):=rfl
 rw[e] at h4 hT;obtain⟨L2,e2,hT2⟩:=hT;injection e2 with e2
 rw[←e2] at hT2;refine hK w' ⟨_,?_,hP⟩ (Kept.of_grown hgr (fun b hb _=>by injection hb with hb;exact hb.symm))
 have hf:=memo_few hT2 hP;obtain⟨es,clock,hb,F,hs,hD⟩:=h4;refine⟨es,clock,hb,F,?_,hD⟩
 injection hD with hD
 rw[hD,length_sorted] at hf;simpa using hf
end
end
end Go.Proofs.YtjeecfjeooehhaaGreatDoor