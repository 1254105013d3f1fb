/- The documented example of package review's laws holds. No condition. -/
import Derived.Test.YtjeecfjeooehhaaGreatDoorM16
import Derived.Great.Walk
import Derived.Test.YtjeecfjeooehhaaGreatDoorM10
import Derived.Test.YtjeecfjeooehhaaGreatDoorM8
import Derived.Test.YtjeecfjeooehhaaGreatDoorM13
set_option linter.unusedSimpArgs false
set_option linter.unusedVariables false
set_option maxHeartbeats 16000000
set_option maxRecDepth 100000
namespace Go.Proofs.YtjeecfjeooehhaaGreatDoor
open Go.RowKit
open Lib (hid)
section
attribute [local go_sem ↓] wp_at_zero wp_at_succ
theorem list22 (d:List Value)(h:d.length=22):∃a0 a1 a2 a3 a4 a5 a6 a7 a8 a9 a10 a11 a12 a13 a14 a15 a16 a17 a18 a19 a20 a21,d=[a0,a1,a2,a3,a4,a5,a6,a7,a8,a9,a10,a11,a12,a13,a14,a15,a16,a17,a18,a19,a20,a21]:=by
 match d,h with
 | [a0,a1,a2,a3,a4,a5,a6,a7,a8,a9,a10,a11,a12,a13,a14,a15,a16,a17,a18,a19,a20,a21],_=>exact⟨_,_,_,_,_,_,_,_,_,_,_,_,_,_,_,_,_,_,_,_,_,_,rfl⟩
theorem built2 (X Y:List Value)(hx:X.length=22)(hy:Y.length=22):Tryz.prog.builtSlice 28 2 [(0,.agg X.toArray),(1,.agg Y.toArray)]=some (X++Y).toArray:=by
 obtain⟨a0,a1,a2,a3,a4,a5,a6,a7,a8,a9,a10,a11,a12,a13,a14,a15,a16,a17,a18,a19,a20,a21,rfl⟩:=list22 X hx;obtain⟨b0,b1,b2,b3,b4,b5,b6,b7,b8,b9,b10,b11,b12,b13,b14,b15,b16,b17,b18,b19,b20,b21,rfl⟩:=list22 Y hy
 kernel_rfl
theorem wpList_buildSlice_want {P:Program}{ops:Array Oper}{rest:List Oper}{o:Oper}{a:Act}{w:World}{Q:Exit→Act→World→Prop}(hw:Region.wanted o (yielded ops a.tmps)=true)(t e:TypeId)(len:Nat)(parts:Array (Nat×Operand))(ho:o.op=.buildSlice t len parts)
  (vs:List (Nat×Value)) (hv:(parts.map fun (i,x)=>(i,a.eval x)).toList=vs) (hu:P.underlying t=some (.slice e)) (cells:List Value)
  (hf:P.builtSlice e len vs=some cells.toArray)
  (h:wpList P ops Q rest (a.put o.dst (.slice (some ⟨w.heap.size,0,none⟩) len len)) (w.alloc (.cells cells.toArray e))):wpList P ops Q (o::rest) a w:=by
 unfold Program.builtSlice at hf
 cases hie:P.info? e with
 | none=>simp [hie] at hf
 | some ie =>
  simp only[hie] at hf
  cases hz:ie.zero with
  | none=>simp [hz] at hf
  | some z =>
   simp only[hz] at hf
   by_cases hc:len*ie.size > 2^24∨len*ie.size=0
   ·simp [hc] at hf
   ·rw[if_neg hc] at hf
    exact BigFrame.wpList_want hw fun _ hK=>wp_buildSlice t e len parts ho _ ie z hu hie hz (fun h=>hc (Or.inl h)) (fun h=>hc (Or.inr h)) (by rw[hv];exact hf) (hK _ _ h)
theorem map_single {M:List RX}{q:Rev}(h:M.map (·.r)=[q]):∃x,M=[x]∧x.r=q:=by
 cases M with
 | nil=>cases h
 | cons x T =>
  rw[List.map_cons] at h;injection h with h1 h2
  rw[List.map_eq_nil_iff.1 h2];exact⟨x,rfl,h1⟩
def exR:Rev:=⟨2,1,5,false,[⟨0,1,3⟩],List.replicate 16 0,⟨#[]⟩⟩
def exW:Rev:=⟨2,2,8,true,[⟨0,1,3⟩],List.replicate 16 0,⟨#[]⟩⟩
theorem exR_enc:encE exR=0:=by kernel_rfl
theorem exR_len:(encR exR).length=35:=by kernel_rfl
theorem exR_dec:decF (readP (encR exR)) (encR exR)=some exR:=by kernel_rfl
theorem exR_std (A B:Option Addr)(c d:Nat):((frsF [⟨exW,A,1,c⟩,⟨exR,B,1,d⟩]).1.filter (stdB 7 (frsF [⟨exW,A,1,c⟩,⟨exR,B,1,d⟩]).1)).map (·.r)=[exR]:=by kernel_rfl
theorem exR_std8 (A B:Option Addr)(c d:Nat):((frsF [⟨exW,A,1,c⟩,⟨exR,B,1,d⟩]).1.filter (stdB 8 (frsF [⟨exW,A,1,c⟩,⟨exR,B,1,d⟩]).1)).map (·.r)=[]:=by kernel_rfl
theorem rev0_val:validE rev0=5:=by kernel_rfl
theorem exR_i:i64 exR.shop∧i64 exR.seq:=⟨⟨by decide,by decide⟩,⟨by decide,by decide⟩⟩
theorem exW_i:i64 exW.shop∧i64 exW.seq:=⟨⟨by decide,by decide⟩,⟨by decide,by decide⟩⟩
theorem exR_W:RevW exR:=revW_of exR_enc
theorem exR_bl (g:Nat):Tryz.prog.built 28 [(0,.int .i64 2),(1,.int .i64 1),(2,.int .i64 5),(4,.slice (some ⟨g,0,none⟩) 1 1)]=some (revC exR (some ⟨g,0,none⟩) 1 1).toArray:=by kernel_rfl
theorem exW_bl (g:Nat):Tryz.prog.built 28 [(0,.int .i64 2),(1,.int .i64 2),(2,.int .i64 8),(3,.bool true),(4,.slice (some ⟨g,0,none⟩) 1 1)]=some (revC exW (some ⟨g,0,none⟩) 1 1).toArray:=by kernel_rfl
theorem lives_any (w:World):Calls Tryz.prog 14 #[] w fun e w'=>e=.returned (.bool true)∧Ext w w':=by
 have zz:∀W,(zeroValue 28).run Tryz.prog W=.ok (.agg Z0.toArray) W:=fun W=>by kernel_rfl
 have HLR:Hid (∀(A:Option Addr),(revC exR A 1 1).length=22):=hid (fun _=>rfl)
 have HLW:Hid (∀(A:Option Addr),(revC exW A 1 1).length=22):=hid (fun _=>rfl)
 go_enter Tryz.func14,Tryz.ntmps14
 go_upto_region 2 with (first
  | (refine wpList_build_eq (by rfl) 28 _ rfl _ (by kernel_rfl) _ (exR_bl w.heap.size) ?_)
  | (refine wpList_store_freshw rfl 28 (.tmp 1) (.tmp 11) rfl (w.heap.size+1) (by simp) Z0 (revC exR (some ⟨w.heap.size,0,none⟩) 1 1) 28 (by kernel_rfl) (by kernel_rfl) (info_rev.trans rfl) rfl (revC_one _ _ _ _) ?_;intro w1 hw1 hE1 hz1;have BR:=hid hw1;have E1:=hid hE1;clear hw1 hE1 hz1))
 obtain⟨g1,hg1⟩:∃g,g=w.heap.size:=⟨_,rfl⟩
 have BI1:Hid (Blk w1 g1 68 [.int .i64 0,.int .i64 1,.int .i64 3]):=hid (by rw[hg1];exact (Blk.fresh' w 68 [.int .i64 0,.int .i64 1,.int .i64 3] _ _ rfl rfl).ext E1.out)
 have EX:Hid (Ext w w1):=hid (((Ext.refl w).alloc _).next E1.out);rw[←hg1] at BR⊢;have VR:Hid (RevV w1 exR (some ⟨g1,0,none⟩) 1 1):=hid ⟨⟨rfl,fun _=>⟨g1,0,rfl,BI1.out.lt,fun j u hu=>by rw[Nat.zero_add];exact (BI1.out.cell j).trans hu⟩⟩,Nat.le_refl _,by decide,by decide,rfl,fun x hx=>by rw[List.eq_of_mem_replicate hx];decide⟩
 clear hg1 E1
 go_upto_region 3 with (first
  | (refine wpList_build_eq (by rfl) 28 _ rfl _ (by kernel_rfl) _ (exW_bl w1.heap.size) ?_)
  | (refine wpList_store_freshw rfl 28 (.tmp 2) (.tmp 14) rfl (w1.heap.size+1) (by simp) Z0 (revC exW (some ⟨w1.heap.size,0,none⟩) 1 1) 28 (by kernel_rfl) (by kernel_rfl) (info_rev.trans rfl) rfl (revC_one _ _ _ _) ?_;intro w2 hw2 hE2 hz2;have BW:=hid hw2;have E2:=hid hE2;clear hw2 hE2 hz2))
 obtain⟨g2,hg2⟩:∃g,g=w1.heap.size:=⟨_,rfl⟩
 have E12:Hid (Ext w1 w2):=hid (((Ext.refl w1).alloc _).next E2.out);have BI2:Hid (Blk w2 g2 68 [.int .i64 0,.int .i64 1,.int .i64 3]):=hid (by rw[hg2];exact (Blk.fresh' w1 68 [.int .i64 0,.int .i64 1,.int .i64 3] _ _ rfl rfl).ext E2.out)
 have EX:=hid (EX.out.next E12.out);have BR:=hid (BR.out.ext E12.out);have VR:=hid (VR.out.ext E12.out);rw[←hg2] at BW⊢;have VW:Hid (RevV w2 exW (some ⟨g2,0,none⟩) 1 1):=hid ⟨⟨rfl,fun _=>⟨g2,0,rfl,BI2.out.lt,fun j u hu=>by rw[Nat.zero_add];exact (BI2.out.cell j).trans hu⟩⟩,Nat.le_refl _,by decide,by decide,rfl,fun x hx=>by rw[List.eq_of_mem_replicate hx];decide⟩
 clear hg2 E2 E12 BI1 BI2
 have HENC:Hid (∀W,RevV W exR (some ⟨g1,0,none⟩) 1 1→Calls Tryz.prog 8 #[.agg (revC exR (some ⟨g1,0,none⟩) 1 1).toArray] W fun e w'=>(∃A' c',e=.returned (.tuple #[.slice A' 35 c',.int .i64 0])∧w'.ownsRow W.heap.size 5 1 (.slice A' 35 c') 35 (u8s (encR exR)))∧Ext W w'):=hid (fun W hv=>by
  have h:=encodeX_any exR (some ⟨g1,0,none⟩) 1 1 W hv;have hX:encX exR=encR exR:=by unfold encX;rw[if_pos exR_enc]
  rw[hX,exR_enc,exR_len] at h;exact h)
 have HDEC:Hid (∀W A c,W.ownsRow 0 5 1 (.slice A 35 c) 35 (u8s (encR exR))→Calls Tryz.prog 10 #[.slice A 35 c] W fun e w'=>(∃A' n' c',e=.returned (.tuple #[.agg (revC exR A' n' c').toArray,.int .i64 35,.int .i64 0])∧RevV w' exR A' n' c')∧Ext W w'):=hid (fun W A c ho=>by
  have hr:Rd W W.heap.size A 35 (u8s (encR exR)):=Rd.of_own ho;have hcc:=slice_cap ho;unfold maxLen at hcc;have hby:Byt (encR exR):=encR_byt exR_W rfl (fun x hx=>by rw[List.eq_of_mem_replicate hx];decide)
  have h:=decode_any (readP (encR exR)) (encR exR) A 35 c W hr hby hcc.1 hcc.2 (by decide) (fun W2 hW2=>read_any (encR exR) A 35 c W2 (hr.ext' hW2) hby hcc.1 hcc.2 (by decide))
  rw[exR_dec] at h;refine h.mono ?_
  rintro e w' ⟨⟨A',n',c',he,hv,_⟩,hE⟩
  refine⟨⟨A',n',c',?_,hv⟩,hE⟩
  rw[he];unfold decN decC;dsimp only;rw[exR_len];rfl)
 have HSTD:Hid (∀W g (day:Int),RevV W exR (some ⟨g1,0,none⟩) 1 1→RevV W exW (some ⟨g2,0,none⟩) 1 1→Blk W g 28 (revC exW (some ⟨g2,0,none⟩) 1 1++revC exR (some ⟨g1,0,none⟩) 1 1)→Calls Tryz.prog 38 #[.slice (some ⟨g,0,none⟩) 2 2,.int .i64 day] W fun e w'=>(∃(M:List RX) (A':Option Addr) (c':Nat),e=.returned (.slice A' M.length c')∧RdN w' w'.heap.size 22 A' M.length (rxsC M)∧(∀x∈M,RXV w' x)∧(M.map (·.r)).Perm (((frsF [⟨exW,some ⟨g2,0,none⟩,1,1⟩,⟨exR,some ⟨g1,0,none⟩,1,1⟩]).1.filter (stdB day (frsF [⟨exW,some ⟨g2,0,none⟩,1,1⟩,⟨exR,some ⟨g1,0,none⟩,1,1⟩]).1)).map (·.r)))∧Ext W w'):=hid (fun W g day hvr hvw hb=>by
  have h:=standing_any [⟨exW,some ⟨g2,0,none⟩,1,1⟩,⟨exR,some ⟨g1,0,none⟩,1,1⟩] day (some ⟨g,0,none⟩) 2 2 W ⟨rfl,fun _=>⟨g,0,rfl,hb.lt,fun j u hu=>by rw[Nat.zero_add];exact (hb.cell j).trans hu⟩⟩ (fun x hx=>by
   simp only[List.mem_cons,List.not_mem_nil,or_false] at hx
   rcases hx with rfl|rfl
   ·exact⟨hvw,exW_i⟩
   ·exact⟨hvr,exR_i⟩) (by decide)
  refine h.mono ?_
  rintro e w' ⟨⟨M,A',c',h1,h2,h3,h4,_⟩,hE⟩
  exact⟨⟨M,A',c',h1,h2,h3,h4⟩,hE⟩)
 go_upto_region 6 with (first
  | (refine wpList_load_blk rfl 28 (.tmp 1) rfl (g1+1) (by kernel_rfl) BR.out Tryz.underlying28 rfl (info_rev.trans rfl) ?_)
  | (refine wpList_load_blk rfl 28 (.tmp 2) rfl (g2+1) (by kernel_rfl) BW.out Tryz.underlying28 rfl (info_rev.trans rfl) ?_)
  | (go_at_call 8;(with_reducible refine (HENC.out _ VR.out).mono ?_);rintro e w3 ⟨⟨A3,c3,rfl,ho3⟩,hE3⟩;have O3:=hid ho3;have BR:=hid (BR.out.ext hE3);have BW:=hid (BW.out.ext hE3);have VR:=hid (RevV.ext VR.out hE3);have VW:=hid (RevV.ext VW.out hE3);have EX:=hid (EX.out.next hE3);clear hE3 ho3)
  | (go_at_call 10;(with_reducible refine (HDEC.out _ _ _ (own_lo O3.out (Nat.zero_le _))).mono ?_);rintro e w4 ⟨⟨A4,n4,c4,rfl,hv4⟩,hE4⟩;have V4:=hid hv4;have HL4:Hid ((revC exR A4 n4 c4).length=22):=hid (revC_len _ _ _ _ rfl);have BR:=hid (BR.out.ext hE4);have BW:=hid (BW.out.ext hE4);have VR:=hid (RevV.ext VR.out hE4);have VW:=hid (RevV.ext VW.out hE4);have EX:=hid (EX.out.next hE4);clear hE4 hv4)
  | (refine wpList_store_freshw rfl 28 (.tmp 5) (.tmp 23) rfl w4.heap.size rfl Z0 (revC exR A4 n4 c4) 28 (by kernel_rfl) (by kernel_rfl) (info_rev.trans (congrArg some HL4.out.symm)) (Eq.trans (b:=22) rfl HL4.out.symm) (revC_one _ _ _ _) ?_;intro w5 hw5 hE5 hz5;have B5:=hid hw5;have V4:=hid (RevV.ext V4.out hE5);have BR:=hid (BR.out.ext hE5);have BW:=hid (BW.out.ext hE5);have VR:=hid (RevV.ext VR.out hE5);have VW:=hid (RevV.ext VW.out hE5);have EX:=hid (EX.out.next hE5);clear hw5 hE5 hz5)
  | (refine wpList_buildSlice_want (by rfl) 92 28 2 _ rfl _ (by kernel_rfl) Tryz.underlying92 _ (built2 (revC exW (some ⟨g2,0,none⟩) 1 1) (revC exR (some ⟨g1,0,none⟩) 1 1) rfl rfl) ?_;have B6:=hid (Blk.fresh' w5 28 (revC exW (some ⟨g2,0,none⟩) 1 1++revC exR (some ⟨g1,0,none⟩) 1 1) _ _ rfl rfl);have hE6:Ext w5 (w5.alloc (.cells (revC exW (some ⟨g2,0,none⟩) 1 1++revC exR (some ⟨g1,0,none⟩) 1 1).toArray 28)):=(Ext.refl w5).alloc _;have B5:=hid (B5.out.ext hE6);have V4:=hid (RevV.ext V4.out hE6);have BR:=hid (BR.out.ext hE6);have BW:=hid (BW.out.ext hE6);have VR:=hid (RevV.ext VR.out hE6);have VW:=hid (RevV.ext VW.out hE6);have EX:=hid (EX.out.next hE6);clear hE6)
  | (go_at_call 38;(with_reducible refine (HSTD.out _ _ _ VR.out VW.out B6.out).mono ?_);rintro e w7 ⟨⟨M,A7,c7,rfl,hr7,hx7,hp7⟩,hE7⟩;rw[exR_std] at hp7;have HP7:=hid hp7;have HR7:=hid hr7;have HX7:=hid hx7;have B5:=hid (B5.out.ext hE7);have V4:=hid (RevV.ext V4.out hE7);have BR:=hid (BR.out.ext hE7);have BW:=hid (BW.out.ext hE7);have VR:=hid (RevV.ext VR.out hE7);have VW:=hid (RevV.ext VW.out hE7);have EX:=hid (EX.out.next hE7);clear hE7 hp7 hr7 hx7))
 obtain⟨x,hM,hxr⟩:∃x,M=[x]∧x.r=exR:=by
  exact map_single (List.perm_singleton.1 HP7.out)
 subst hM;have HXX:=hid (HX7.out x (List.mem_singleton.2 rfl));have HX22:=hid HXX.out.len;obtain⟨b7,p7,hA7,hb7,hrg⟩:=rx_at HR7.out (fun y hy=>(HX7.out y hy).len) (by simp)
 subst hA7
 have HRG:Hid (∀W,Ext w7 W→W.rangeAt b7 p7 (rxC x)):=hid (fun W hW=>by
  have h:=hrg W (fun a ha=>hW.cell ha) 0 x rfl
  rwa [Nat.zero_mul,Nat.add_zero] at h)
 have HXR:=hid hxr;clear hrg hb7 hxr
 have HS1:Hid (∀W,Ext w7 W→Calls Tryz.prog 11 #[.agg (revC exR A4 n4 c4).toArray,.agg (revC exR (some ⟨g1,0,none⟩) 1 1).toArray] W fun e w'=>e=.returned (.bool true)∧Ext W w'):=hid (fun W hW=>by
  have h:=rsame_any exR exR A4 (some ⟨g1,0,none⟩) n4 c4 1 1 W (RevV.ext V4.out hW) exR_W (RevV.ext VR.out hW) exR_W;rw[decide_eq_true rfl] at h;exact h)
 have HS2:Hid (∀W,Ext w7 W→Calls Tryz.prog 11 #[.agg (rxC x).toArray,.agg (revC exR (some ⟨g1,0,none⟩) 1 1).toArray] W fun e w'=>e=.returned (.bool true)∧Ext W w'):=hid (fun W hW=>by
  have h:=rsame_any x.r exR x.A (some ⟨g1,0,none⟩) x.n x.c 1 1 W (RevV.ext HXX.out hW) (by rw[HXR.out];exact exR_W) (RevV.ext VR.out hW) exR_W
  rw[HXR.out,decide_eq_true rfl] at h;unfold rxC;rw[HXR.out];exact h)
 have HST8:Hid (∀W g,Ext w7 W→Blk W g 28 (revC exW (some ⟨g2,0,none⟩) 1 1++revC exR (some ⟨g1,0,none⟩) 1 1)→Calls Tryz.prog 38 #[.slice (some ⟨g,0,none⟩) 2 2,.int .i64 8] W fun e w'=>(∃A' c',e=.returned (.slice A' 0 c'))∧Ext W w'):=hid (fun W g hW hb=>by
  refine (HSTD.out W g 8 (RevV.ext VR.out hW) (RevV.ext VW.out hW) hb).mono ?_
  rintro e w' ⟨⟨M,A',c',h1,h2,h3,h4⟩,hE⟩
  rw[exR_std8] at h4
  have hM0:M=[]:=by
   have:=List.Perm.eq_nil h4
   exact List.map_eq_nil_iff.1 this
  subst hM0;exact⟨⟨A',c',h1⟩,hE⟩)
 have HVA:Hid (∀W,Calls Tryz.prog 23 #[.agg Z0.toArray] W fun e w'=>e=.returned (.int .i64 5)∧Ext W w'):=hid (fun W=>by
  have h:=valid_any rev0 none 0 0 W (rev0_V W);rw[rev0_val] at h;exact h)
 clear HENC HDEC HSTD O3 B6 HR7 HX7 HP7 HXX
 refine wp_region_flowG 45 ?FW1 (fun us=>?_) (by kernel_rfl) (by kernel_rfl) (fun a b=>Ext a b) Ext.refl (fun h1 h2=>h1.next h2) (fun i v W=>match i with
  | 0=>v=.int .i64 0
  | 1=>v=.bool true
  | 2=>v=.bool true
  | 3=>v=.int .i64 0
  | 4=>v=.bool true
  | 5=>v=.bool true
  | 6=>v=.bool true
  | 7=>v=.slice A3 35 c3
  | 8=>v=.int .i64 35
  | 9=>v=.bool true
  | 10=>v=.bool true
  | 11=>v=.bool true
  | 12=>v=.int .i64 35
  | 13=>v=.bool true
  | 14=>v=.bool true
  | 15=>v=.bool true
  | 16=>v=.agg (revC exR A4 n4 c4).toArray
  | 17=>v=.agg (revC exR (some ⟨g1,0,none⟩) 1 1).toArray
  | 18=>v=.bool true
  | 19=>v=.bool true
  | 20=>v=.bool true
  | 21=>v=.slice (some ⟨b7,p7,none⟩) 1 c7
  | 22=>v=.int .i64 1
  | 23=>v=.bool true
  | 24=>v=.bool true
  | 25=>v=.bool true
  | 26=>v=.slice (some ⟨b7,p7,none⟩) 1 c7
  | 27=>v=.pointer (some ⟨b7,p7,none⟩)
  | 28=>v=.agg (rxC x).toArray
  | 29=>v=.agg (revC exR (some ⟨g1,0,none⟩) 1 1).toArray
  | 30=>v=.bool true
  | 31=>v=.bool true
  | 32=>v=.bool true
  | 33=>v=.agg (revC exW (some ⟨g2,0,none⟩) 1 1).toArray
  | 34=>v=.agg (revC exR (some ⟨g1,0,none⟩) 1 1).toArray
  | 35=>∃g9,v=.slice (some ⟨g9,0,none⟩) 2 2∧Blk W g9 28 (revC exW (some ⟨g2,0,none⟩) 1 1++revC exR (some ⟨g1,0,none⟩) 1 1)
  | 36=>∃A9 c9,v=.slice A9 0 c9
  | 37=>v=.int .i64 0
  | 38=>v=.bool true
  | 39=>v=.bool true
  | 40=>v=.bool true
  | 41=>v=.agg Z0.toArray
  | 42=>v=.int .i64 5
  | 43=>v=.bool true
  | 44=>v=.bool true
  | _=>True) ?_ ?_
 case refine_1 =>
  simp only[List.take_succ_cons,List.take_zero,flowAct,Nat.zero_add,Nat.reduceAdd,Act.put,List.setIfInBounds_toArray,List.set_cons_succ,List.set_cons_zero]
  rfl
 ·simp only[List.take_succ_cons,List.take_zero,flowStepsG]
  refine⟨?_,?_,?_,?_,?_,?_,?_,?_,?_,?_,?_,?_,?_,?_,?_,?_,?_,?_,?_,?_,?_,?_,?_,?_,?_,?_,?_,?_,?_,?_,?_,?_,?_,?_,?_,?_,?_,?_,?_,?_,?_,?_,?_,?_,?_,trivial⟩
  ·intro us W K HE hd HK
   dsimp only at HK⊢;clear hd;go_wp2_with fail
   exact K_at (Kz HK) (by kernel_rfl)
  ·intro us W K HE hd HK
   have d0:=hd 0 (by kernel_rfl)
   dsimp only at HK⊢;rw[d0] at HK⊢;clear hd d0;go_wp2_with fail
   exact K_at (Kz HK) (by kernel_rfl)
  ·intro us W K HE hd HK
   have d1:=hd 1 (by kernel_rfl)
   dsimp only at HK⊢;rw[d1] at HK⊢;clear hd d1;go_wp2_with fail
   exact K_at (Kz HK) (by kernel_rfl)
  ·intro us W K HE hd HK
   have d2:=hd 2 (by kernel_rfl)
   dsimp only at HK⊢;rw[d2] at HK⊢;clear hd d2;go_wp2_with fail
   exact K_at (Kz HK) (by kernel_rfl)
  ·intro us W K HE hd HK
   have d2:=hd 2 (by kernel_rfl)
   have d3:=hd 3 (by kernel_rfl)
   dsimp only at HK⊢;rw[d2,d3] at HK⊢;clear hd d2 d3;go_wp2_with fail
   exact K_at (Kz HK) (by kernel_rfl)
  ·intro us W K HE hd HK
   have d2:=hd 2 (by kernel_rfl)
   have d4:=hd 4 (by kernel_rfl)
   dsimp only at HK⊢;rw[d2,d4] at HK⊢;clear hd d2 d4;go_wp2_with fail
   exact K_at (Kz HK) (by kernel_rfl)
  ·intro us W K HE hd HK
   have d5:=hd 5 (by kernel_rfl)
   dsimp only at HK⊢;rw[d5] at HK⊢;clear hd d5;go_wp2_with fail
   exact K_at (Kz HK) (by kernel_rfl)
  ·intro us W K HE hd HK
   have d6:=hd 6 (by kernel_rfl)
   dsimp only at HK⊢;rw[d6] at HK⊢;clear hd d6;go_wp2_with fail
   exact K_at (Kz HK) (by kernel_rfl)
  ·intro us W K HE hd HK
   have d6:=hd 6 (by kernel_rfl)
   have d7:=hd 7 (by kernel_rfl)
   dsimp only at HK⊢;rw[d6,d7] at HK⊢;clear hd d6 d7;go_wp2_with fail
   exact K_at (Kz HK) (by kernel_rfl)
  ·intro us W K HE hd HK
   have d6:=hd 6 (by kernel_rfl)
   have d8:=hd 8 (by kernel_rfl)
   dsimp only at HK⊢;rw[d6,d8] at HK⊢;clear hd d6 d8;go_wp2_with fail
   exact K_at (Kz HK) (by kernel_rfl)
  ·intro us W K HE hd HK
   have d6:=hd 6 (by kernel_rfl)
   have d9:=hd 9 (by kernel_rfl)
   dsimp only at HK⊢;rw[d6,d9] at HK⊢;clear hd d6 d9;go_wp2_with fail
   exact K_at (Kz HK) (by kernel_rfl)
  ·intro us W K HE hd HK
   have d10:=hd 10 (by kernel_rfl)
   dsimp only at HK⊢;rw[d10] at HK⊢;clear hd d10;go_wp2_with fail
   exact K_at (Kz HK) (by kernel_rfl)
  ·intro us W K HE hd HK
   have d11:=hd 11 (by kernel_rfl)
   dsimp only at HK⊢;rw[d11] at HK⊢;clear hd d11;go_wp2_with fail
   exact K_at (Kz HK) (by kernel_rfl)
  ·intro us W K HE hd HK
   have d11:=hd 11 (by kernel_rfl)
   have d12:=hd 12 (by kernel_rfl)
   dsimp only at HK⊢;rw[d11,d12] at HK⊢;clear hd d11 d12;go_wp2_with fail
   exact K_at (Kz HK) (by kernel_rfl)
  ·intro us W K HE hd HK
   have d11:=hd 11 (by kernel_rfl)
   have d13:=hd 13 (by kernel_rfl)
   dsimp only at HK⊢;rw[d11,d13] at HK⊢;clear hd d11 d13;go_wp2_with fail
   exact K_at (Kz HK) (by kernel_rfl)
  ·intro us W K HE hd HK
   have d14:=hd 14 (by kernel_rfl)
   dsimp only at HK⊢;rw[d14] at HK⊢;clear hd d14;go_wp2_with fail
   exact K_at (Kz HK) (by kernel_rfl)
  ·intro us W K HE hd HK
   have d15:=hd 15 (by kernel_rfl)
   have BW9:=hid (B5.out.ext (sg_undrew HE.out));dsimp only at HK⊢;rw[d15] at HK⊢;clear hd d15;go_wp2_with ((refine wpList_load_want (by rfl) 28 (.tmp 5) rfl w4.heap.size (by kernel_rfl) BW9.out Tryz.underlying28 rfl (info_rev.trans (congrArg some HL4.out.symm)) ?_))
   exact K_at (Kz HK) (by kernel_rfl)
  ·intro us W K HE hd HK
   have d15:=hd 15 (by kernel_rfl)
   have BW9:=hid (BR.out.ext (sg_undrew HE.out));dsimp only at HK⊢;rw[d15] at HK⊢;clear hd d15;go_wp2_with ((refine wpList_load_want (by rfl) 28 (.tmp 1) rfl (g1+1) (by kernel_rfl) BW9.out Tryz.underlying28 rfl (info_rev.trans rfl) ?_))
   exact K_at (Kz HK) (by kernel_rfl)
  ·intro us W K HE hd HK
   have d15:=hd 15 (by kernel_rfl)
   have d16:=hd 16 (by kernel_rfl)
   have d17:=hd 17 (by kernel_rfl)
   dsimp only at HK⊢;rw[d15,d16,d17] at HK⊢;clear hd d15 d16 d17;go_wp2_with ((go_at_call 11;(with_reducible refine (HS1.out W (sg_undrew HE.out)).mono ?_);rintro e w9 ⟨rfl,hB9⟩))
   exact K_at (HK.out (.bool true) w9 (fun _ _=>rfl) hB9) (by kernel_rfl)
  ·intro us W K HE hd HK
   have d15:=hd 15 (by kernel_rfl)
   have d18:=hd 18 (by kernel_rfl)
   dsimp only at HK⊢;rw[d15,d18] at HK⊢;clear hd d15 d18;go_wp2_with fail
   exact K_at (Kz HK) (by kernel_rfl)
  ·intro us W K HE hd HK
   have d19:=hd 19 (by kernel_rfl)
   dsimp only at HK⊢;rw[d19] at HK⊢;clear hd d19;go_wp2_with fail
   exact K_at (Kz HK) (by kernel_rfl)
  ·intro us W K HE hd HK
   have d20:=hd 20 (by kernel_rfl)
   dsimp only at HK⊢;rw[d20] at HK⊢;clear hd d20;go_wp2_with fail
   exact K_at (Kz HK) (by kernel_rfl)
  ·intro us W K HE hd HK
   have d20:=hd 20 (by kernel_rfl)
   have d21:=hd 21 (by kernel_rfl)
   dsimp only at HK⊢;rw[d20,d21] at HK⊢;clear hd d20 d21;go_wp2_with fail
   exact K_at (Kz HK) (by kernel_rfl)
  ·intro us W K HE hd HK
   have d20:=hd 20 (by kernel_rfl)
   have d22:=hd 22 (by kernel_rfl)
   dsimp only at HK⊢;rw[d20,d22] at HK⊢;clear hd d20 d22;go_wp2_with fail
   exact K_at (Kz HK) (by kernel_rfl)
  ·intro us W K HE hd HK
   have d20:=hd 20 (by kernel_rfl)
   have d23:=hd 23 (by kernel_rfl)
   dsimp only at HK⊢;rw[d20,d23] at HK⊢;clear hd d20 d23;go_wp2_with fail
   exact K_at (Kz HK) (by kernel_rfl)
  ·intro us W K HE hd HK
   have d24:=hd 24 (by kernel_rfl)
   dsimp only at HK⊢;rw[d24] at HK⊢;clear hd d24;go_wp2_with fail
   exact K_at (Kz HK) (by kernel_rfl)
  ·intro us W K HE hd HK
   have d25:=hd 25 (by kernel_rfl)
   dsimp only at HK⊢;rw[d25] at HK⊢;clear hd d25;go_wp2_with fail
   exact K_at (Kz HK) (by kernel_rfl)
  ·intro us W K HE hd HK
   have d25:=hd 25 (by kernel_rfl)
   have d26:=hd 26 (by kernel_rfl)
   dsimp only at HK⊢;rw[d25,d26] at HK⊢;clear hd d25 d26;go_wp2_with fail
   exact K_at (Kz HK) (by kernel_rfl)
  ·intro us W K HE hd HK
   have d25:=hd 25 (by kernel_rfl)
   have d27:=hd 27 (by kernel_rfl)
   have HRW:=hid (HRG.out W (sg_undrew HE.out));dsimp only at HK⊢;rw[d25,d27] at HK⊢;clear hd d25 d27;go_wp2_with ((refine wpList_midw (by rfl) 28 (.tmp 57) rfl b7 p7 (by kernel_rfl) (rxC x) HRW.out Tryz.underlying28 rfl (info_rev.trans (congrArg some HX22.out.symm)) ?_))
   exact K_at (Kz HK) (by kernel_rfl)
  ·intro us W K HE hd HK
   have d25:=hd 25 (by kernel_rfl)
   have BW9:=hid (BR.out.ext (sg_undrew HE.out));dsimp only at HK⊢;rw[d25] at HK⊢;clear hd d25;go_wp2_with ((refine wpList_load_want (by rfl) 28 (.tmp 1) rfl (g1+1) (by kernel_rfl) BW9.out Tryz.underlying28 rfl (info_rev.trans rfl) ?_))
   exact K_at (Kz HK) (by kernel_rfl)
  ·intro us W K HE hd HK
   have d25:=hd 25 (by kernel_rfl)
   have d28:=hd 28 (by kernel_rfl)
   have d29:=hd 29 (by kernel_rfl)
   dsimp only at HK⊢;rw[d25,d28,d29] at HK⊢;clear hd d25 d28 d29;go_wp2_with ((go_at_call 11;(with_reducible refine (HS2.out W (sg_undrew HE.out)).mono ?_);rintro e w9 ⟨rfl,hB9⟩))
   exact K_at (HK.out (.bool true) w9 (fun _ _=>rfl) hB9) (by kernel_rfl)
  ·intro us W K HE hd HK
   have d25:=hd 25 (by kernel_rfl)
   have d30:=hd 30 (by kernel_rfl)
   dsimp only at HK⊢;rw[d25,d30] at HK⊢;clear hd d25 d30;go_wp2_with fail
   exact K_at (Kz HK) (by kernel_rfl)
  ·intro us W K HE hd HK
   have d31:=hd 31 (by kernel_rfl)
   dsimp only at HK⊢;rw[d31] at HK⊢;clear hd d31;go_wp2_with fail
   exact K_at (Kz HK) (by kernel_rfl)
  ·intro us W K HE hd HK
   have d32:=hd 32 (by kernel_rfl)
   have BW9:=hid (BW.out.ext (sg_undrew HE.out));dsimp only at HK⊢;rw[d32] at HK⊢;clear hd d32;go_wp2_with ((refine wpList_load_want (by rfl) 28 (.tmp 2) rfl (g2+1) (by kernel_rfl) BW9.out Tryz.underlying28 rfl (info_rev.trans rfl) ?_))
   exact K_at (Kz HK) (by kernel_rfl)
  ·intro us W K HE hd HK
   have d32:=hd 32 (by kernel_rfl)
   have BW9:=hid (BR.out.ext (sg_undrew HE.out));dsimp only at HK⊢;rw[d32] at HK⊢;clear hd d32;go_wp2_with ((refine wpList_load_want (by rfl) 28 (.tmp 1) rfl (g1+1) (by kernel_rfl) BW9.out Tryz.underlying28 rfl (info_rev.trans rfl) ?_))
   exact K_at (Kz HK) (by kernel_rfl)
  ·intro us W K HE hd HK
   have d32:=hd 32 (by kernel_rfl)
   have d33:=hd 33 (by kernel_rfl)
   have d34:=hd 34 (by kernel_rfl)
   dsimp only at HK⊢;rw[d32,d33,d34] at HK⊢;clear hd d32 d33 d34;go_wp2_with ((refine wpList_buildSlice_want (by rfl) 92 28 2 _ rfl _ (by kernel_rfl) Tryz.underlying92 _ (built2 (revC exW (some ⟨g2,0,none⟩) 1 1) (revC exR (some ⟨g1,0,none⟩) 1 1) rfl rfl) ?_))
   exact K_at (HK.out (.slice (some ⟨W.heap.size,0,none⟩) 2 2) _ (fun W2 hW2=>⟨_,rfl,(Blk.fresh W 28 (revC exW (some ⟨g2,0,none⟩) 1 1++revC exR (some ⟨g1,0,none⟩) 1 1)).ext hW2⟩) ((Ext.refl W).alloc _)) (by kernel_rfl)
  ·intro us W K HE hd HK
   have d32:=hd 32 (by kernel_rfl)
   obtain⟨g9,d35,hb9⟩:=hd 35 (by kernel_rfl)
   have HB9:=hid hb9;clear hb9;dsimp only at HK⊢;rw[d32,d35] at HK⊢;clear hd d32 d35;go_wp2_with ((go_at_call 38;(with_reducible refine (HST8.out W _ (sg_undrew HE.out) HB9.out).mono ?_);rintro e w9 ⟨⟨A9,c9,rfl⟩,hB9⟩))
   exact K_at (HK.out (.slice A9 0 c9) w9 (fun W2 hW2=>⟨A9,c9,rfl⟩) hB9) (by kernel_rfl)
  ·intro us W K HE hd HK
   have d32:=hd 32 (by kernel_rfl)
   obtain⟨A9,c9,d36⟩:=hd 36 (by kernel_rfl)
   dsimp only at HK⊢;rw[d32,d36] at HK⊢;clear hd d32 d36;go_wp2_with fail
   exact K_at (Kz HK) (by kernel_rfl)
  ·intro us W K HE hd HK
   have d32:=hd 32 (by kernel_rfl)
   have d37:=hd 37 (by kernel_rfl)
   dsimp only at HK⊢;rw[d32,d37] at HK⊢;clear hd d32 d37;go_wp2_with fail
   exact K_at (Kz HK) (by kernel_rfl)
  ·intro us W K HE hd HK
   have d32:=hd 32 (by kernel_rfl)
   have d38:=hd 38 (by kernel_rfl)
   dsimp only at HK⊢;rw[d32,d38] at HK⊢;clear hd d32 d38;go_wp2_with fail
   exact K_at (Kz HK) (by kernel_rfl)
  ·intro us W K HE hd HK
   have d39:=hd 39 (by kernel_rfl)
   dsimp only at HK⊢;rw[d39] at HK⊢;clear hd d39;go_wp2_with fail
   exact K_at (Kz HK) (by kernel_rfl)
  ·intro us W K HE hd HK
   have d40:=hd 40 (by kernel_rfl)
   dsimp only at HK⊢;rw[d40] at HK⊢;clear hd d40;go_wp2_with ((refine wpList_build_eq (by rfl) 28 _ rfl _ (by kernel_rfl) Z0 build_rev0 ?_))
   exact K_at (Kz HK) (by kernel_rfl)
  ·intro us W K HE hd HK
   have d40:=hd 40 (by kernel_rfl)
   have d41:=hd 41 (by kernel_rfl)
   dsimp only at HK⊢;rw[d40,d41] at HK⊢;clear hd d40 d41;go_wp2_with ((go_at_call 23;(with_reducible refine (HVA.out W).mono ?_);rintro e w9 ⟨rfl,hB9⟩))
   exact K_at (HK.out (.int .i64 5) w9 (fun _ _=>rfl) hB9) (by kernel_rfl)
  ·intro us W K HE hd HK
   have d40:=hd 40 (by kernel_rfl)
   have d42:=hd 42 (by kernel_rfl)
   dsimp only at HK⊢;rw[d40,d42] at HK⊢;clear hd d40 d42;go_wp2_with fail
   exact K_at (Kz HK) (by kernel_rfl)
  ·intro us W K HE hd HK
   have d40:=hd 40 (by kernel_rfl)
   have d43:=hd 43 (by kernel_rfl)
   dsimp only at HK⊢;rw[d40,d43] at HK⊢;clear hd d40 d43;go_wp2_with fail
   exact K_at (Kz HK) (by kernel_rfl)
 ·intro us W hE hd
  try dsimp only
  have d44:=hd 44 (by decide)
  simp only[List.drop_succ_cons,List.drop_zero]
  rw[d44];have EW:=hid (EX.out.next (sg_undrew hE));clear hd hE d44;go_wp2_with fail
  go_ret
  exact⟨rfl,EW.out⟩
end
section
def ltR (a b:Rid):Prop:=a.s<b.s∨a.s=b.s∧(a.q<b.q∨a.q=b.q∧a.i<b.i)
theorem lessB_iff (a b:Rid):lessB a b=true↔ltR a b:=by
 unfold lessB ltR;split
 ·rw[decide_eq_true_iff];omega
 ·split
  ·rw[decide_eq_true_iff];omega
  ·rw[decide_eq_true_iff];omega
theorem lessB_not (a b:Rid):lessB a b=false↔¬ltR a b:=by
 rw[←lessB_iff,Bool.not_eq_true]
theorem ltR_trans {a b c:Rid}(h1:ltR a b)(h2:ltR b c):ltR a c:=by unfold ltR at *;omega
theorem ltR_total {a b:Rid}(h:¬ltR a b)(hne:a≠b):ltR b a:=by
 obtain⟨s,q,i⟩:=a;obtain⟨s',q',i'⟩:=b;unfold ltR at *;dsimp only at *;have:¬(s=s'∧q=q'∧i=i'):=fun⟨h1,h2,h3⟩=>hne (by rw[h1,h2,h3])
 omega
def GoodR (L:List Rid):Prop:=L.Pairwise ltR∧∀x∈L,idB x=true
theorem GoodR.nil:GoodR []:=⟨List.Pairwise.nil,fun x hx=>by cases hx⟩
theorem GoodR.ins {L:List Rid}(h:GoodR L){x:Rid}(hx:idB x=true):GoodR (insR L x):=by
 unfold insR;split
 ·exact h
 ·rename_i hne
  have hlow:∀y∈L.take (posR L x),ltR y x:=fun y hy=>by
   obtain⟨j,hj,rfl⟩:=List.getElem_of_mem hy;rw[List.length_take] at hj;rw[List.getElem_take];have h1:=List.not_of_lt_findIdx (p:=fun y=>!lessB y x) (xs:=L) (i:=j) (by unfold posR at hj;omega)
   rw[←lessB_iff];simpa using h1
  have hhigh:∀y∈L.drop (posR L x),ltR x y:=fun y hy=>by
   have hlt:posR L x<L.length:=by
    rcases Nat.lt_or_ge (posR L x) L.length with h1|h1
    ·exact h1
    ·rw[List.drop_of_length_le h1] at hy;cases hy
   have h0:¬ltR L[posR L x] x:=by
    have:=List.findIdx_getElem (p:=fun y=>!lessB y x) (xs:=L) (w:=hlt)
    rw[←lessB_not];have h2:(!lessB L[posR L x] x)=true:=this;simpa using h2
   have hn0:L[posR L x]≠x:=fun e=>hne (by rw[List.getElem?_eq_getElem hlt,e])
   have h1:ltR x L[posR L x]:=ltR_total h0 hn0;rw[List.drop_eq_getElem_cons hlt] at hy;rcases List.mem_cons.1 hy with rfl|hy
   ·exact h1
   ·have hp:=h.1
    rw[←List.take_append_drop (posR L x) L,List.pairwise_append,List.drop_eq_getElem_cons hlt,List.pairwise_cons] at hp;exact ltR_trans h1 (hp.2.1.1 y hy)
  refine⟨?_,fun y hy=>?_⟩
  ·have hp:=h.1
   rw[←List.take_append_drop (posR L x) L,List.pairwise_append] at hp;rw[List.pairwise_append,List.pairwise_cons];refine⟨hp.1,⟨hhigh,hp.2.1⟩,fun y hy z hz=>?_⟩
   rcases List.mem_cons.1 hz with rfl|hz
   ·exact hlow y hy
   ·exact hp.2.2 y hy z hz
  ·rcases List.mem_append.1 hy with hy|hy
   ·exact h.2 y (List.mem_of_mem_take hy)
   ·rcases List.mem_cons.1 hy with rfl|hy
    ·exact hx
    ·exact h.2 y (List.mem_of_mem_drop hy)
theorem GoodR.okB {L:List Rid}(h:GoodR L):okB L=true:=by
 refine okB_of (fun j hj=>?_)
 unfold goodB;have e1:L.getD j rid0=L[j]:=by rw[List.getD_eq_getElem?_getD,List.getElem?_eq_getElem hj];rfl
 rw[e1,h.2 _ (List.getElem_mem _),Bool.true_and];by_cases h0:j=0
 ·rw[decide_eq_true h0];rfl
 ·have e2:L.getD (j-1) rid0=L[j-1]:=by rw[List.getD_eq_getElem?_getD,List.getElem?_eq_getElem (by omega)];rfl
  rw[e2,(lessB_iff _ _).2 (List.pairwise_iff_getElem.1 h.1 (j-1) j (by omega) hj (by omega)),Bool.or_true]
theorem idOf_ok (l:List Int)(k:Nat):idB (idOf l k)=true:=by
 rw[idB_iff];unfold idOf;have h1:=atI_bd l (6+k) 2 (by decide)
 have h2:=atI_bd l (7+k) 2 (by decide)
 have h3:=atI_bd l (8+k) 4 (by decide)
 dsimp only;omega
theorem opsTo_good (l:List Int):∀k,GoodR (opsTo l k)
 | 0=>GoodR.nil
 | k+1=>(opsTo_good l k).ins (idOf_ok l k)
theorem revOf_valid (l:List Int):validE (revOf l)=0:=by
 have h0:=atI_bd l 0 3 (by decide)
 have h1:=atI_bd l 1 4 (by decide)
 have h2:=atI_bd l 2 9 (by decide)
 have h5:=atI_bd l 5 4 (by decide)
 have hl:=opsTo_len l (1+(atI l 5 4).toNat)
 have hpos:0<(opsTo l (1+(atI l 5 4).toNat)).length:=by
  rw[Nat.add_comm];exact (insR_len _ _).2
 unfold validE
 have hr:(rnumB (revOf l).shop (revOf l).seq&&winB (revOf l).day 1 1048576)=true:=by
  unfold rnumB winB revOf revTo;simp only[Bool.and_eq_true,decide_eq_true_eq]
  omega
 rw[hr,if_neg (by decide),if_neg (by show ¬ 32<(opsTo l (1+(atI l 5 4).toNat)).length;omega),if_neg (by show ¬(opsTo l (1+(atI l 5 4).toNat)).length=0;omega),if_pos (show okB (revOf l).ops=true from (opsTo_good l _).okB)]
end
section
attribute [local go_sem ↓] wp_at_zero wp_at_succ
structure SpSt (w W:World) (r:Rev) (A:Option Addr) (n c:Nat) (Z:List Value):Prop where
 ext:Ext w W
 blk:Blk W w.heap.size 28 (revC r A n c)
 res:Blk W (w.heap.size+1) 28 Z
 row:RdN W W.heap.size 3 A n (idsC r.ops)
 far:∀a,A=some a→w.heap.size+1<a.block
 le:n≤c
 cap:c≤9223372036854775807
 mean:r.mean.length=16
 mbyt:Byt r.mean
end
section
attribute [local go_sem ↓] wp_at_zero wp_at_succ
theorem ext_kept {F:Nat→Prop}{w0 w w':World}(e:Ext w0 w)(hk:Kept F w w')(hF:∀b,F b→w0.heap.size≤b):Ext w0 w' :=
 ((Kept.of_ext (F:=fun _=>False) e).next hk (fun b hb hf=>by have:=hF b hf;omega)).ext (fun _ h=>h.elim)
end
section
end
end Go.Proofs.YtjeecfjeooehhaaGreatDoor