/- The reference's Valid of a review. Conditions: at most 1000 operations. -/
import Derived.Test.YtjeecfjeooehhaaGreatDoorM7
import Derived.Test.YtjeecfjeooehhaaGreatDoorM3
import Derived.Test.YtjeecfjeooehhaaGreatDoorM1
set_option linter.unusedSimpArgs false
set_option linter.unusedVariables false
set_option maxHeartbeats 16000000
set_option maxRecDepth 100000
namespace Go.Proofs.YtjeecfjeooehhaaGreatDoor
open Go.RowKit
open Lib (hid)
section
attribute [local go_sem ↓] wp_at_zero wp_at_succ
end
section
attribute [local go_sem ↓] wp_at_zero wp_at_succ
def idOf (l:List Int)(k:Nat):Rid:=⟨atI l (6+k) 2,1+atI l (7+k) 2,atI l (8+k) 4⟩
def opsTo (l:List Int):Nat→List Rid
 | 0=>[]
 | k+1=>insR (opsTo l k) (idOf l k)
def meanTo (l:List Int)(t:Nat):List Int:=(List.range 16).map fun i=>if i<t then atI l 4 3*(i:Int) else 0
theorem meanTo_len (l:List Int)(t:Nat):(meanTo l t).length=16:=by simp [meanTo]
theorem meanTo_byt (l:List Int)(t:Nat):Byt (meanTo l t):=fun x hx=>by
 obtain⟨i,hi,rfl⟩:=List.mem_map.1 hx;have h1:=List.mem_range.1 hi;have h2:=atI_bd l 4 3 (by decide)
 split
 ·have h3:0≤atI l 4 3*(i:Int):=Int.mul_nonneg h2.1 (by omega)
  have h4:atI l 4 3*(i:Int)≤2*15:=Int.mul_le_mul (by omega) (by omega) (by omega) (by omega)
  omega
 ·omega
theorem meanTo_zero (l:List Int):meanTo l 0=List.replicate 16 0:=by
 unfold meanTo;simp [List.map_const']
theorem meanTo_succ (l:List Int)(t:Nat)(h:t<16):(meanTo l t).set t (atI l 4 3*(t:Int))=meanTo l (t+1):=by
 apply List.ext_getElem?
 intro j;unfold meanTo;rw[List.getElem?_set]
 by_cases hj:t=j
 ·subst hj
  rw[if_pos rfl];simp [h]
 ·rw[if_neg hj,List.getElem?_map,List.getElem?_map]
  by_cases h16:j<16
  ·rw[List.getElem?_range h16]
   simp only[Option.map_some]
   congr 1
   by_cases h1:j<t
   ·rw[if_pos h1,if_pos (by omega)]
   ·rw[if_neg h1,if_neg (by omega)]
  ·rw[List.getElem?_eq_none (by simp;omega)]
   rfl
def revTo (l:List Int)(t k:Nat):Rev:=⟨atI l 0 3,1+atI l 1 4,1+atI l 2 9,decide (atI l 3 3=0),opsTo l k,meanTo l t,⟨#[]⟩⟩
def revOf (l:List Int):Rev:=revTo l 16 (1+(atI l 5 4).toNat)
theorem revC_mean (l:List Int)(t k:Nat)(A:Option Addr)(n c:Nat)(h:t<16):(revC (revTo l t k) A n c).set (5+t) (.int .u8 (atI l 4 3*(t:Int)))=revC (revTo l (t+1) k) A n c:=by
 unfold revC revTo;dsimp only;rw[←meanTo_succ l t h,List.append_assoc,List.append_assoc,List.set_append_right _ _ (by simp),List.set_append_left _ _ (by simp [u8s,meanTo];exact h)]
 simp only[List.length_cons,List.length_nil,Nat.zero_add,Nat.reduceAdd,Nat.add_sub_cancel_left]
 unfold u8s;rw[List.map_set]
theorem revC_len (r:Rev)(A:Option Addr)(n c:Nat)(h:r.mean.length=16):(revC r A n c).length=22:=by
 simp [revC,u8s,h]
theorem revC_one (r:Rev)(A:Option Addr)(n c:Nat):∀v∈revC r A n c,v.oneCell'=true:=fun v hv=>by
 unfold revC at hv;rcases List.mem_append.1 hv with hv|hv
 ·rcases List.mem_append.1 hv with hv|hv
  ·simp only[List.mem_cons,List.not_mem_nil,or_false] at hv
   rcases hv with rfl|rfl|rfl|rfl|rfl<;>rfl
  ·exact u8s_one _ v hv
 ·simp only[List.mem_cons,List.not_mem_nil,or_false] at hv
  rw[hv];rfl
theorem revC_ops (l:List Int)(k:Nat)(A A':Option Addr)(n c n' c':Nat):(revC (revTo l 16 k) A n c).set 4 (.slice A' n' c')=revC (revTo l 16 (k+1)) A' n' c':=rfl
theorem rdn_setRow {w:World}{size n:Nat}{A:Option Addr}{xs:List Value}(h:RdN w w.heap.size size A n xs){g:Nat}(hne:∀a,A=some a→a.block≠g)(cs:Array Value):RdN (w.setRow g cs) (w.setRow g cs).heap.size size A n xs:=by
 refine⟨h.1,fun hn=>?_⟩
 obtain⟨b,o,hA,hb,hc⟩:=h.2 hn;refine⟨b,o,hA,by simpa using hb,fun j u hu=>?_⟩
 rw[World.cell?_of_block (setRow_other w g b cs (fun e=>hne _ hA e))]
 exact hc j u hu
theorem insR_len (L:List Rid)(x:Rid):(insR L x).length≤L.length+1∧0<(insR L x).length:=by
 unfold insR;split
 ·rename_i h
  have:=(List.getElem?_eq_some_iff.1 h).1
  omega
 ·simp only[List.length_append,List.length_cons,List.length_take,List.length_drop]
  omega
theorem opsTo_len (l:List Int):∀k,(opsTo l k).length≤k
 | 0=>Nat.le_refl _
 | k+1=>by
  have h1:=(insR_len (opsTo l k) (idOf l k)).1;have h2:=opsTo_len l k;unfold opsTo;omega
theorem review_far (l:List Int)(A:Option Addr)(n c:Nat)(w:World)(hl:Rd w w.heap.size A n (l.map (Value.int .i64)))(hwf:∀x∈l,-9223372036854775808≤x∧x≤9223372036854775807) :
  Calls Tryz.prog 6 #[.slice A n c] w fun e w'=>(∃A' n' c',e=.returned (.agg (revC (revOf l) A' n' c').toArray)∧RevV w' (revOf l) A' n' c'∧∀a,A'=some a→w.heap.size≤a.block)∧Ext w w':=by
 have HL:=hid hl;have HWF:=hid hwf;have HAT:Hid (∀(i:Nat) (m:Int),0<m→m≤1000→i≤1000000→∀W,Ext w W→Calls Tryz.prog 29 #[.slice A n c,.int .i64 (i:Int),.int .i64 m] W fun e w'=>e=.returned (.int .i64 (atI l i m))∧W=w'):=hid (fun i m h0 h1 hi W hW=>at_any l A n c i m W (HL.out.ext' hW) HWF.out h0 (by omega) hi)
 obtain⟨a0,ha0⟩:∃x,x=atI l 0 3:=⟨_,rfl⟩
 obtain⟨a1,ha1⟩:∃x,x=atI l 1 4:=⟨_,rfl⟩
 obtain⟨a2,ha2⟩:∃x,x=atI l 2 9:=⟨_,rfl⟩
 obtain⟨a3,ha3⟩:∃x,x=atI l 3 3:=⟨_,rfl⟩
 obtain⟨a4,ha4⟩:∃x,x=atI l 4 3:=⟨_,rfl⟩
 obtain⟨a5,ha5⟩:∃x,x=(atI l 5 4).toNat:=⟨_,rfl⟩
 have B1:=atI_bd l 1 4 (by decide);have B2:=atI_bd l 2 9 (by decide);have B4:=atI_bd l 4 3 (by decide);have B5:=atI_bd l 5 4 (by decide)
 rw[←ha1] at B1;rw[←ha2] at B2;rw[←ha4] at B4;have hb5:a5≤3:=by omega
 have H0:Hid (∀W,Ext w W→Calls Tryz.prog 29 #[.slice A n c,.int .i64 0,.int .i64 3] W fun e w'=>e=.returned (.int .i64 a0)∧W=w'):=hid (fun W hW=>by rw[ha0];exact HAT.out 0 3 (by decide) (by decide) (by decide) W hW)
 have H1:Hid (∀W,Ext w W→Calls Tryz.prog 29 #[.slice A n c,.int .i64 1,.int .i64 4] W fun e w'=>e=.returned (.int .i64 a1)∧W=w'):=hid (fun W hW=>by rw[ha1];exact HAT.out 1 4 (by decide) (by decide) (by decide) W hW)
 have H2:Hid (∀W,Ext w W→Calls Tryz.prog 29 #[.slice A n c,.int .i64 2,.int .i64 9] W fun e w'=>e=.returned (.int .i64 a2)∧W=w'):=hid (fun W hW=>by rw[ha2];exact HAT.out 2 9 (by decide) (by decide) (by decide) W hW)
 have H3:Hid (∀W,Ext w W→Calls Tryz.prog 29 #[.slice A n c,.int .i64 3,.int .i64 3] W fun e w'=>e=.returned (.int .i64 a3)∧W=w'):=hid (fun W hW=>by rw[ha3];exact HAT.out 3 3 (by decide) (by decide) (by decide) W hW)
 have H4:Hid (∀W,Ext w W→Calls Tryz.prog 29 #[.slice A n c,.int .i64 4,.int .i64 3] W fun e w'=>e=.returned (.int .i64 a4)∧W=w'):=hid (fun W hW=>by rw[ha4];exact HAT.out 4 3 (by decide) (by decide) (by decide) W hW)
 have H5:Hid (∀W,Ext w W→Calls Tryz.prog 29 #[.slice A n c,.int .i64 5,.int .i64 4] W fun e w'=>e=.returned (.int .i64 (a5:Int))∧W=w'):=hid (fun W hW=>by rw[ha5,Int.toNat_of_nonneg B5.1];exact HAT.out 5 4 (by decide) (by decide) (by decide) W hW)
 have HR0:Hid (revC (revTo l 0 0) none 0 0=[.int .i64 a0,.int .i64 (1+a1),.int .i64 (1+a2),.bool (decide (a3=0)),.slice none 0 0]++u8s (List.replicate 16 0)++[.string ⟨#[]⟩]):=hid (by rw[ha0,ha1,ha2,ha3];unfold revC revTo;rw[meanTo_zero])
 have HEND:Hid (revOf l=revTo l 16 (1+a5)):=hid (by rw[ha5];rfl)
 have HA4:=hid ha4;clear hl hwf ha0 ha1 ha2 ha3 ha4 ha5 B5;have zz:∀W,(zeroValue 28).run Tryz.prog W=.ok (.agg (([.int .i64 0,.int .i64 0,.int .i64 0,.bool false,.slice none 0 0]:List Value)++u8s (List.replicate 16 0)++[Value.string ⟨#[]⟩]).toArray) W:=fun W=>by kernel_rfl
 obtain⟨Z,hZ⟩:∃Z:List Value,Z=[.int .i64 0,.int .i64 0,.int .i64 0,.bool false,.slice none 0 0]++u8s (List.replicate 16 0)++[.string ⟨#[]⟩]:=⟨_,rfl⟩
 have HZL:Hid (Z.length=22):=hid (by rw[hZ];rfl)
 rw[←hZ] at zz;have HZE:=hid hZ;clear hZ;go_enter Tryz.func6,Tryz.ntmps6
 go_upto_region 1 with fail
 obtain⟨w1,hw1⟩:∃x,x=w.alloc (.cells Z.toArray 28):=⟨_,rfl⟩
 change Code.wp _ _ _ _ (w.alloc (.cells Z.toArray 28))
 rw[←hw1];have E1:Hid (Ext w w1):=hid (by rw[hw1];exact (Ext.refl w).alloc _)
 have BZ:Hid (Blk w1 w.heap.size 28 Z):=hid (by rw[hw1];exact Blk.fresh' _ _ _ _ _ rfl rfl)
 have HSZ1:Hid (w1.heap.size=w.heap.size+1):=hid (by rw[hw1];simp)
 clear hw1;have HC0:Hid (((((Z.set 0 (.int .i64 a0)).set 1 (.int .i64 (1+a1))).set 2 (.int .i64 (1+a2))).set 3 (.bool (a3==0)))=revC (revTo l 0 0) none 0 0):=hid (by rw[HR0.out,HZE.out];rfl)
 have HCL:Hid ((((((Z.set 0 (.int .i64 a0)).set 1 (.int .i64 (1+a1))).set 2 (.int .i64 (1+a2))).set 3 (.bool (a3==0)))).length=22):=hid (by simp [HZL.out])
 have hZL:=HZL.out;have hZn:¬Z=[]:=fun h=>by rw[h] at hZL;cases hZL
 go_upto_region 2 with ((first
  | (go_at_call 29;(with_reducible refine (H0.out w1 E1.out).mono ?_);rintro e w3 ⟨rfl,rfl⟩)
  | (go_at_call 29;(with_reducible refine (H1.out w1 E1.out).mono ?_);rintro e w3 ⟨rfl,rfl⟩)
  | (go_at_call 29;(with_reducible refine (H2.out w1 E1.out).mono ?_);rintro e w3 ⟨rfl,rfl⟩)
  | (go_at_call 29;(with_reducible refine (H3.out w1 E1.out).mono ?_);rintro e w3 ⟨rfl,rfl⟩)
  | (refine wpList_store_fresh rfl 28 (.tmp 3) (.tmp 17) rfl _ w1.heap.size rfl Z ((((Z.set 0 (.int .i64 a0)).set 1 (.int .i64 (1+a1))).set 2 (.int .i64 (1+a2))).set 3 (.bool (a3==0))) 28 (by rfl) (by rfl) rfl (info_rev.trans (congrArg some HCL.out.symm)) (HZL.out.trans HCL.out.symm) (by rw[HC0.out];exact revC_one _ _ _ _) ?_;intro w2 hw2 hE2 hz2;rw[HC0.out] at hw2;have B2:=hid hw2;have E2:Hid (Ext w1 w2):=hid hE2;clear hw2 hE2 hz2)))
 obtain⟨pr,hpr⟩:∃x,x=w1.heap.size:=⟨_,rfl⟩
 rw[←hpr] at B2⊢
 have HPR:Hid (pr=w.heap.size+1∧pr=w1.heap.size):=hid ⟨by
  rw[hpr];have h1:=BZ.out.lt;have h2:=HSZ1.out;omega,hpr⟩
 have EW2:Hid (Ext w w2):=hid (E1.out.next E2.out);have BZ2:Hid (Blk w2 w.heap.size 28 Z):=hid (BZ.out.ext E2.out);clear hZL hZn hpr;simp only[Act.put]
 go_wp2_with fail
 go_loopw [4] (fun k wr=>∃t:Nat,t≤16∧k=.int .i64 (t:Int)∧Ext w1 wr∧Blk wr pr 28 (revC (revTo l t 0) none 0 0)) (fun k _=>16-(intOf k).toNat)
 case atStart=>exact⟨0,by omega,rfl,E2.out,B2.out⟩
 case round =>
  clear B2 E2 EW2 BZ2;obtain⟨t,ht,rfl,hE,hB⟩:=hrel;have EO:=hid hE;have BO:=hid hB;clear hE hB;obtain⟨wo,rfl⟩:∃x:World,x=wr:=⟨_,rfl⟩
  have EWO:=hid (E1.out.next EO.out);by_cases hlt:t<16
  ·obtain⟨v,hv⟩:∃v,v=a4*(t:Int):=⟨_,rfl⟩
   have hv0:0≤v:=by rw[hv];exact Int.mul_nonneg B4.1 (by omega)
   have hv1:v≤30:=by
    rw[hv];have h4:a4*(t:Int)≤2*15:=Int.mul_le_mul (by omega) (by omega) (by omega) (by omega)
    omega
   have hmul:a4*(t:Int)=v:=hv.symm;have hwv:IntKind.u8.wrap v=v:=by unfold IntKind.wrap;simp [IntKind.bits,IntKind.signed];omega
   obtain⟨y,cz⟩:∃y,wo.cell? ⟨pr,5+t,none⟩=some y:=⟨_,(BO.out.cell (5+t)).trans (List.getElem?_eq_getElem (by rw[revC_len _ _ _ _ (meanTo_len l t)];omega))⟩
   have fz:=BO.out.frozen (5+t)
   have BO2:Hid (Blk (wo.setCell ⟨pr,5+t,none⟩ (.int .u8 v)) pr 28 (revC (revTo l (t+1) 0) none 0 0)):=hid (by
    have h:=BO.out.set (5+t) (.int .u8 v);rw[hv,HA4.out,revC_mean l t 0 none 0 0 hlt,←HA4.out,←hv] at h;exact h)
   have EO2:Hid (Ext w1 (wo.setCell ⟨pr,5+t,none⟩ (.int .u8 v))):=hid (EO.out.setCell (p:=⟨pr,5+t,none⟩) (by rw[HPR.out.2];exact Nat.le_refl _) _)
   clear hv B1 B2 B4 hb5;go_wp2_with (go_at_call 29;(with_reducible refine (H4.out wo EWO.out).mono ?_);rintro e w3 ⟨rfl,rfl⟩)
   exact⟨⟨t+1,by omega,by go_num,EO2.out,BO2.out⟩,by simp [intOf];omega⟩
  ·obtain rfl:t=16:=by omega
   rw[show ((16:Nat):Int)=16 from rfl];go_wp2_with fail
   go_loopw [5] (fun k wr=>∃(u:Nat) (A':Option Addr) (n' c':Nat),u≤1+a5∧k=.int .i64 (u:Int)∧Ext w1 wr∧Blk wr pr 28 (revC (revTo l 16 u) A' n' c')∧RevV wr (revTo l 16 u) A' n' c'∧(n'=0→A'=none∧c'=0)∧n'≤u∧∀a,A'=some a→pr<a.block) (fun k _=>1+a5-(intOf k).toNat)
   case atStart=>exact⟨0,none,0,0,by omega,rfl,EO.out,BO.out,⟨⟨rfl,fun h=>absurd h (Nat.lt_irrefl _)⟩,Nat.le_refl _,by decide,by decide,meanTo_len _ _,meanTo_byt _ _⟩,fun _=>⟨rfl,rfl⟩,Nat.le_refl _,fun a h=>by cases h⟩
   case round =>
    clear BO EO EWO;obtain⟨u,A',n',c',hu,rfl,hE,hB,hV,hnl,hnu,hfa⟩:=hrel;have HNL:=hid hnl;clear hnl;have HFA:=hid hfa;clear hfa;have EO:=hid hE;have BO:=hid hB;have VO:=hid hV;clear hE hB hV;obtain⟨wp,rfl⟩:∃x:World,x=wr:=⟨_,rfl⟩
    have EWO:=hid (E1.out.next EO.out);by_cases hlt:u<1+a5
    ·have HLT:=hid hlt
     have hltB:decide ((u:Int)<1+(a5:Int))=true:=decide_eq_true (by omega)
     have hltN:decide (u<1+a5)=true:=decide_eq_true (by omega)
     go_upto_region 9 with (go_at_call 29;(with_reducible refine (H5.out wp EWO.out).mono ?_);rintro e w3 ⟨rfl,rfl⟩)
     obtain⟨x1,hx1⟩:∃x,x=atI l (6+u) 2:=⟨_,rfl⟩
     obtain⟨x2,hx2⟩:∃x,x=atI l (7+u) 2:=⟨_,rfl⟩
     obtain⟨x3,hx3⟩:∃x,x=atI l (8+u) 4:=⟨_,rfl⟩
     have hx2b:=atI_bd l (7+u) 2 (by decide)
     rw[←hx2] at hx2b;have H6:Hid (∀W,Ext w W→Calls Tryz.prog 29 #[.slice A n c,.int .i64 (6+(u:Int)),.int .i64 2] W fun e w'=>e=.returned (.int .i64 x1)∧W=w'):=hid (fun W hW=>by rw[hx1,show (6+(u:Int))=((6+u:Nat):Int) by omega];exact HAT.out (6+u) 2 (by decide) (by decide) (by omega) W hW)
     have H7:Hid (∀W,Ext w W→Calls Tryz.prog 29 #[.slice A n c,.int .i64 (7+(u:Int)),.int .i64 2] W fun e w'=>e=.returned (.int .i64 x2)∧W=w'):=hid (fun W hW=>by rw[hx2,show (7+(u:Int))=((7+u:Nat):Int) by omega];exact HAT.out (7+u) 2 (by decide) (by decide) (by omega) W hW)
     have H8:Hid (∀W,Ext w W→Calls Tryz.prog 29 #[.slice A n c,.int .i64 (8+(u:Int)),.int .i64 4] W fun e w'=>e=.returned (.int .i64 x3)∧W=w'):=hid (fun W hW=>by rw[hx3,show (8+(u:Int))=((8+u:Nat):Int) by omega];exact HAT.out (8+u) 4 (by decide) (by decide) (by omega) W hW)
     have HID:Hid (opsTo l (u+1)=insR (opsTo l u) ⟨x1,1+x2,x3⟩):=hid (by rw[hx1,hx2,hx3];rfl)
     have HPOS:Hid (0<(opsTo l (u+1)).length):=hid (by rw[HID.out];exact (insR_len _ _).2)
     have HNB:Hid (n'≤u∧u≤3):=hid ⟨hnu,by omega⟩
     have HIN:Hid (∀W,Ext wp W→Calls Tryz.prog 30 #[.slice A' n' c',.agg #[.int .i64 x1,.int .i64 (1+x2),.int .i64 x3]] W fun e w'=>(∃A3 n3 c3,e=.returned (.slice A3 n3 c3)∧RdN w' w'.heap.size 3 A3 n3 (idsC (opsTo l (u+1)))∧n3≤n'+1∧n3≤c3∧c3≤9223372036854775807∧(A3=A'∨∀a,A3=some a→W.heap.size≤a.block))∧Ext W w'):=hid (fun W hW=>by
      have hv:=VO.out.ext hW;rw[HID.out];exact insert_any (opsTo l u) ⟨x1,1+x2,x3⟩ A' n' c' W hv.row (by have:=HNB.out;omega) hv.le hv.cap HNL.out)
     have HBB:Hid (u≤3∧n'≤u):=hid ⟨by omega,hnu⟩
     have hu3:u≤3:=by omega
     clear hx1 hx2 hx3 hlt hltB hltN hu hnu hb5 B1 B2 B4
     refine wp_region_flowG 18 ?FW9 (fun us=>?_) (by kernel_rfl) (by kernel_rfl) (fun a b=>Ext a b) Ext.refl (fun h1 h2=>h1.next h2) (fun i v W=>match i with
      | 0=>v=.pointer (some ⟨pr,4,none⟩)
      | 1=>v=.slice A' n' c'
      | 2=>v=.slice A n c
      | 3=>v=.int .i64 (u:Int)
      | 4=>v=.int .i64 (6+(u:Int))
      | 5=>v=.int .i64 x1
      | 6=>v=.slice A n c
      | 7=>v=.int .i64 (u:Int)
      | 8=>v=.int .i64 (7+(u:Int))
      | 9=>v=.int .i64 x2
      | 10=>v=.int .i64 (1+x2)
      | 11=>v=.slice A n c
      | 12=>v=.int .i64 (u:Int)
      | 13=>v=.int .i64 (8+(u:Int))
      | 14=>v=.int .i64 x3
      | 15=>v=.agg #[.int .i64 x1,.int .i64 (1+x2),.int .i64 x3]
      | 16=>∃A3 n3 c3,v=.slice A3 n3 c3∧RdN W W.heap.size 3 A3 n3 (idsC (opsTo l (u+1)))∧n3≤n'+1∧n3≤c3∧c3≤9223372036854775807∧∀a,A3=some a→pr<a.block
      | 17=>v=.pointer (some ⟨pr,4,none⟩)
      | _=>True) ?_ ?_
     case refine_1 =>
      simp only[List.take_succ_cons,List.take_zero,flowAct,Nat.zero_add,Nat.reduceAdd,Act.put,List.setIfInBounds_toArray,List.set_cons_succ,List.set_cons_zero]
      rfl
     ·simp only[List.take_succ_cons,List.take_zero,flowStepsG]
      refine⟨?_,?_,?_,?_,?_,?_,?_,?_,?_,?_,?_,?_,?_,?_,?_,?_,?_,?_,trivial⟩
      ·intro us W K HE hd HK
       dsimp only at HK⊢;clear hd;go_wp2_with fail
       exact K_at (Kz HK) (by kernel_rfl)
      ·intro us W K HE hd HK
       have d0:=hd 0 (by kernel_rfl)
       have xk:W.cell? ⟨pr,4,none⟩=some (.slice A' n' c'):=(BO.out.ext (sg_undrew HE.out)).cell 4
       dsimp only at HK⊢;rw[d0] at HK⊢;clear hd d0;go_wp2_with fail
       exact K_at (Kz HK) (by kernel_rfl)
      ·intro us W K HE hd HK
       dsimp only at HK⊢;clear hd;go_wp2_with fail
       exact K_at (Kz HK) (by kernel_rfl)
      ·intro us W K HE hd HK
       dsimp only at HK⊢;clear hd;go_wp2_with fail
       exact K_at (Kz HK) (by kernel_rfl)
      ·intro us W K HE hd HK
       have d3:=hd 3 (by kernel_rfl)
       dsimp only at HK⊢;rw[d3] at HK⊢;clear hd d3;go_wp2_with fail
       exact K_at (Kz HK) (by kernel_rfl)
      ·intro us W K HE hd HK
       have d2:=hd 2 (by kernel_rfl)
       have d4:=hd 4 (by kernel_rfl)
       have EXW:=hid (EWO.out.next (sg_undrew HE.out));dsimp only at HK⊢;rw[d2,d4] at HK⊢;clear hd d2 d4;go_wp2_with ((go_at_call 29;(with_reducible refine (H6.out W EXW.out).mono ?_);rintro e w7 ⟨rfl,rfl⟩))
       exact K_at (Kz HK) (by kernel_rfl)
      ·intro us W K HE hd HK
       dsimp only at HK⊢;clear hd;go_wp2_with fail
       exact K_at (Kz HK) (by kernel_rfl)
      ·intro us W K HE hd HK
       dsimp only at HK⊢;clear hd;go_wp2_with fail
       exact K_at (Kz HK) (by kernel_rfl)
      ·intro us W K HE hd HK
       have d7:=hd 7 (by kernel_rfl)
       dsimp only at HK⊢;rw[d7] at HK⊢;clear hd d7;go_wp2_with fail
       exact K_at (Kz HK) (by kernel_rfl)
      ·intro us W K HE hd HK
       have d6:=hd 6 (by kernel_rfl)
       have d8:=hd 8 (by kernel_rfl)
       have EXW:=hid (EWO.out.next (sg_undrew HE.out));dsimp only at HK⊢;rw[d6,d8] at HK⊢;clear hd d6 d8;go_wp2_with ((go_at_call 29;(with_reducible refine (H7.out W EXW.out).mono ?_);rintro e w7 ⟨rfl,rfl⟩))
       exact K_at (Kz HK) (by kernel_rfl)
      ·intro us W K HE hd HK
       have d9:=hd 9 (by kernel_rfl)
       dsimp only at HK⊢;rw[d9] at HK⊢;clear hd d9;go_wp2_with fail
       exact K_at (Kz HK) (by kernel_rfl)
      ·intro us W K HE hd HK
       dsimp only at HK⊢;clear hd;go_wp2_with fail
       exact K_at (Kz HK) (by kernel_rfl)
      ·intro us W K HE hd HK
       dsimp only at HK⊢;clear hd;go_wp2_with fail
       exact K_at (Kz HK) (by kernel_rfl)
      ·intro us W K HE hd HK
       have d12:=hd 12 (by kernel_rfl)
       dsimp only at HK⊢;rw[d12] at HK⊢;clear hd d12;go_wp2_with fail
       exact K_at (Kz HK) (by kernel_rfl)
      ·intro us W K HE hd HK
       have d11:=hd 11 (by kernel_rfl)
       have d13:=hd 13 (by kernel_rfl)
       have EXW:=hid (EWO.out.next (sg_undrew HE.out));dsimp only at HK⊢;rw[d11,d13] at HK⊢;clear hd d11 d13;go_wp2_with ((go_at_call 29;(with_reducible refine (H8.out W EXW.out).mono ?_);rintro e w7 ⟨rfl,rfl⟩))
       exact K_at (Kz HK) (by kernel_rfl)
      ·intro us W K HE hd HK
       have d5:=hd 5 (by kernel_rfl)
       have d10:=hd 10 (by kernel_rfl)
       have d14:=hd 14 (by kernel_rfl)
       dsimp only at HK⊢;rw[d5,d10,d14] at HK⊢;clear hd d5 d10 d14;go_wp2_with fail
       exact K_at (Kz HK) (by kernel_rfl)
      ·intro us W K HE hd HK
       have d1:=hd 1 (by kernel_rfl)
       have d15:=hd 15 (by kernel_rfl)
       have EW1:=hid (EO.out.next (sg_undrew HE.out));have HIW:=hid (HIN.out W (sg_undrew HE.out));dsimp only at HK⊢;rw[d1,d15] at HK⊢;clear hd d1 d15;go_wp2_with ((go_at_call 30;(with_reducible refine HIW.out.mono ?_);rintro e w7 ⟨⟨A3,n3,c3,rfl,hr3,hn3,hc3,hc4,hf3⟩,hB7⟩))
       exact K_at (HK.out (.slice A3 n3 c3) w7 (fun W2 hW2=>⟨A3,n3,c3,rfl,(hr3.below hW2 (Nat.le_refl _)).more hW2.size,hn3,hc3,hc4,fun a e=>by rcases hf3 with h|h;exact HFA.out a (by rw[←h];exact e);exact Nat.lt_of_lt_of_le (Nat.lt_of_lt_of_le BO.out.lt (sg_undrew HE.out).size) (h a e)⟩) hB7) (by kernel_rfl)
      ·intro us W K HE hd HK
       dsimp only at HK⊢;clear hd;go_wp2_with fail
       exact K_at (Kz HK) (by kernel_rfl)
     ·intro us W hE hd
      try dsimp only
      obtain⟨A3,n3,c3,d16,hr3,hn3,hc3,hc4,hf3⟩:=hd 16 (by decide)
      have d17:=hd 17 (by decide)
      simp only[List.drop_succ_cons,List.drop_zero]
      rw[d17,d16];have EW:=hid (EO.out.next (sg_undrew hE));have BW:=hid (BO.out.ext (sg_undrew hE));have HR3:=hid hr3;have HF3:=hid hf3;clear hd hE d16 d17 hr3 hf3;have cz:W.cell? ⟨pr,4,none⟩=some (.slice A' n' c'):=BW.out.cell 4
      have fz:=BW.out.frozen 4;have BW2:Hid (Blk (W.setCell ⟨pr,4,none⟩ (.slice A3 n3 c3)) pr 28 (revC (revTo l 16 (u+1)) A3 n3 c3)):=hid (by have h:=BW.out.set 4 (.slice A3 n3 c3);rw[revC_ops] at h;exact h)
      have EW2:Hid (Ext w1 (W.setCell ⟨pr,4,none⟩ (.slice A3 n3 c3))):=hid (EW.out.setCell (p:=⟨pr,4,none⟩) (by rw[HPR.out.2];exact Nat.le_refl _) _)
      have VW:Hid (RevV (W.setCell ⟨pr,4,none⟩ (.slice A3 n3 c3)) (revTo l 16 (u+1)) A3 n3 c3):=hid ⟨rdn_setCell HR3.out (p:=⟨pr,4,none⟩) (fun a e=>by have h1:=HF3.out a e;show a.block≠pr;exact fun h2=>by rw[h2] at h1;exact Nat.lt_irrefl _ h1) _,hc3,hc4,(by have h1:=HBB.out;omega),meanTo_len _ _,meanTo_byt _ _⟩
      have hbb:=HBB.out;have hlt:=HLT.out;go_wp2_with fail
      go_roundw
      case rel=>exact⟨u+1,A3,n3,c3,by omega,by go_num,EW2.out,BW2.out,VW.out,fun h0=>absurd h0 (by have h1:=HR3.out.1;rw[idsC_len] at h1;have h2:=HPOS.out;omega),by omega,HF3.out⟩
      case measure=>simp [intOf];omega
    ·obtain rfl:u=1+a5:=by omega
     have HCK:Hid ((revC (revTo l 16 (1+a5)) A' n' c').length=22):=hid (revC_len _ _ _ _ (meanTo_len _ _));have BZP:Hid (Blk wp w.heap.size 28 Z):=hid (BZ.out.ext EO.out)
     go_wp2_with ((first
      | (go_at_call 29;(with_reducible refine (H5.out wp EWO.out).mono ?_);rintro e w3 ⟨rfl,rfl⟩)
      | (refine wpList_load_blk rfl 28 (.tmp 3) rfl pr (by kernel_rfl) BO.out Tryz.underlying28 rfl (info_rev.trans (congrArg some HCK.out.symm)) ?_)
      | (refine wpList_store_blk rfl 28 (.tmp 2) (.tmp 55) (by rfl) w.heap.size (revC (revTo l 16 (1+a5)) A' n' c') rfl rfl BZP.out (info_rev.trans (congrArg some HCK.out.symm)) (HZL.out.trans HCK.out.symm) (revC_one _ _ _ _) ?_;intro w9 hw9 hb9)))
     have HV9:Hid (RevV w9 (revTo l 16 (1+a5)) A' n' c'):=hid (by
      rw[hw9.out];exact { VO.out with row:=rdn_setRow VO.out.row (fun a e=>by have h1:=HFA.out a e;have h2:=HPR.out.1;omega) _ })
     exact bodyPost_ret (results_blk Tryz.results6 _ _ w.heap.size 28 (revC (revTo l 16 (1+a5)) A' n' c') _ rfl hb9 Tryz.underlying28 rfl (info_rev.trans (congrArg some HCK.out.symm))) rfl ⟨⟨A',n',c',by rw[HEND.out],by rw[HEND.out];exact HV9.out,fun a e=>by have h1:=HFA.out a e;have h2:=HPR.out.1;omega⟩,by rw[hw9.out];exact EWO.out.setRow (Nat.le_refl _) _⟩
end
section
def celD (ds:List (List Int)):List Value:=ds.flatMap u8s
def Dig16 (ds:List (List Int)):Prop:=∀d∈ds,d.length=16∧Byt d
theorem Dig16.at_ {ds:List (List Int)}(h:Dig16 ds){t:Nat}(ht:t<ds.length):(ds.getD t []).length=16∧Byt (ds.getD t []):=h _ (getD_mem [] ht)
theorem celD_length:∀(ds:List (List Int)),(∀d∈ds,d.length=16)→(celD ds).length=ds.length*16
 | [],_=>rfl
 | d::r,h=>by
  have h1:=h d (List.mem_cons_self ..);have ih:=celD_length r (fun x hx=>h x (List.mem_cons_of_mem _ hx))
  unfold celD at ih⊢;rw[List.flatMap_cons,List.length_append,u8s_length,h1,ih,List.length_cons];omega
theorem celD_get:∀(ds:List (List Int)) (t j:Nat),(∀d∈ds,d.length=16)→t<ds.length→j<16→(celD ds)[t*16+j]?=some (.int .u8 ((ds.getD t []).getD j 0))
 | [],t,j,_,ht,_=>by cases ht
 | d::r,t,j,h,ht,hj=>by
  have h1:=h d (List.mem_cons_self ..);unfold celD;rw[List.flatMap_cons]
  cases t with
  | zero =>
   rw[List.getElem?_append_left (by rw[u8s_length,h1];omega),Nat.zero_mul,Nat.zero_add,u8s_get _ _ (by omega)]
   rfl
  | succ t =>
   have ih:=celD_get r t j (fun x hx=>h x (List.mem_cons_of_mem _ hx)) (by simpa using ht) hj
   rw[List.getElem?_append_right (by rw[u8s_length,h1];omega),u8s_length,h1,show (t+1)*16+j-16=t*16+j by omega]
   exact ih
theorem celD_snoc (ds:List (List Int))(d:List Int):celD (ds++[d])=celD ds++u8s d:=by simp [celD]
theorem rd_dig {w:World}{B:Nat}{A:Option Addr}{n:Nat}{ds:List (List Int)}(h:RdN w B 16 A n (celD ds))(hd:Dig16 ds)(hn:0<n):ds.length=n∧∃b o,A=some ⟨b,o,none⟩∧b<B∧∀t j,t<n→j<16→w.cell? ⟨b,o+t*16+j,none⟩=some (.int .u8 ((ds.getD t []).getD j 0)):=by
 have hl:ds.length=n:=by
  have:=h.1
  rw[celD_length ds (fun d hx=>(hd d hx).1)] at this
  omega
 obtain⟨b,o,hA,hb,hc⟩:=h.2 hn;refine⟨hl,b,o,hA,hb,fun t j ht hj=>?_⟩
 rw[Nat.add_assoc];exact hc _ _ (celD_get ds t j (fun d hx=>(hd d hx).1) (by omega) hj)
theorem range_dig {w:World}{b o:Nat}{d:List Int}(hd:d.length=16)(h:∀j,j<16→w.cell? ⟨b,o+j,none⟩=some (.int .u8 (d.getD j 0))):w.rangeAt b o (u8s d):=fun j v hv=>by
 have hj:j<16:=by
  have:=(List.getElem?_eq_some_iff.1 hv).1
  rw[u8s_length,hd] at this;exact this
 rw[h j hj,←hv,u8s_get _ _ (by omega)]
theorem winfo_dig:(Tryz.prog.info? 26).map (·.size)=some 16:=by kernel_rfl
def idD (d:List Int):List Int:=d
theorem encD_le (ds:List (List Int))(h:Dig16 ds):(ds.flatMap idD).length=16*ds.length:=by
 induction ds with
 | nil=>rfl
 | cons d r ih =>
  have h1:=(h d (List.mem_cons_self ..)).1;have ih2:=ih (fun x hx=>h x (List.mem_cons_of_mem _ hx))
  rw[List.flatMap_cons,List.length_append,ih2,List.length_cons];unfold idD;omega
theorem zero16w_run (W:World):(zeroValue 26).run Tryz.prog W=.ok (.agg (u8s (List.replicate 16 0)).toArray) W:=by kernel_rfl
theorem digests_any (ds:List (List Int))(A:Option Addr)(n c:Nat)(w:World)(hl:RdN w w.heap.size 16 A n (celD ds))(hd:Dig16 ds)(hlen:ds.length=n)(hn:n≤1000000000) :
  Calls Tryz.prog 67 #[.slice A n c] w fun e w'=>(∃A' c',e=.returned (.slice A' (encL idD ds).length c')∧w'.ownsRow w.heap.size 5 1 (.slice A' (encL idD ds).length c') (encL idD ds).length (u8s (encL idD ds)))∧Below w.heap.size w w':=by
 obtain⟨i0,hi,hz0,hz1,hz2⟩:=info_parts winfo_u8;have hn0:(-9223372036854775808:Int)≤(n:Int):=by omega
 have hn1:(n:Int)≤9223372036854775807:=by omega
 have h9:=encInt_le9 (n:Int) hn0 hn1;have HCAT:Hid (∀t,(encTo idD ds t).length≤100000000000):=hid (fun t=>Nat.le_trans (encTo_le _ ds t) (by unfold encL;rw[List.length_append,encD_le ds hd,hlen];omega))
 have HL:=hid hl;have HN:=hid hlen;have HD:=hid hd;have HT0:Hid (encTo idD ds 0=encInt n):=hid (by unfold encTo;rw[hlen];simp)
 have HTN:Hid (encTo idD ds n=encL idD ds):=hid (by rw[←hlen];exact encTo_full _ ds)
 obtain⟨Z,hZ⟩:∃Z,Z=u8s (List.replicate 16 0):=⟨_,rfl⟩
 have hzr:∀W,(zeroValue 26).run Tryz.prog W=.ok (.agg Z.toArray) W:=by rw[hZ];exact zero16w_run
 have HZL:Hid (Z.length=16):=hid (by rw[hZ];rfl)
 clear hl hlen hd hZ h9;go_enter Tryz.func67,Tryz.ntmps67
 go_wp2_with (go_at_call 66;(with_reducible refine (wintL_any (n:Int) w hn0 hn1).mono ?_);rintro e w1 ⟨⟨A1,c1,rfl,hown1⟩,hB1⟩)
 go_loopw [11,3] (fun i s5 wr=>∃(t:Nat) (A:Option Addr) (c m:Nat),t≤n∧i=.int .i64 t∧s5=.slice A m c∧m=(encTo idD ds t).length∧wr.ownsRow w.heap.size 5 1 (.slice A m c) m (u8s (encTo idD ds t))∧Below w.heap.size w wr)
  (fun i _ _=>n-(intOf i).toNat)
 case atStart=>exact⟨0,_,_,_,Nat.zero_le _,rfl,rfl,by rw[HT0.out],by rw[HT0.out];exact hown1,hB1⟩
 case round =>
  clear hown1 hB1;obtain⟨t,A2,c2,m,ht,rfl,rfl,hm,hown,hB⟩:=hrel;have hs:=hB.size;by_cases hlt:t<n
  ·obtain⟨-,b,o,rfl,hb,hc⟩:=rd_dig HL.out HD.out (by omega)
   have hx:=HD.out.at_ (by rw[HN.out];exact hlt:t<ds.length)
   have hT:=encTo_succ idD ds t [] (by rw[HN.out];exact hlt)
   have hsz:=HCAT.out (t+1);rw[hT,List.length_append] at hsz;have HR:Hid (wr.rangeAt b (o+t*16) (u8s (ds.getD t []))):=hid (range_dig hx.1 (fun j hj=>(hB.cell (p:=⟨b,o+t*16+j,none⟩) hb).trans (hc t j hlt hj)))
   obtain⟨d,hdd⟩:∃d,d=ds.getD t []:=⟨_,rfl⟩
   rw[←hdd] at hx hsz HR hT;have HX:Hid (d.length=16):=hid hx.1;have HUL:Hid ((u8s d).length=16):=hid (by rw[u8s_length,hx.1])
   have hm2:m+16≤100000000000:=by rw[hm];unfold idD at hsz;rw[hx.1] at hsz;exact hsz
   have HT:Hid (encTo idD ds (t+1)=encTo idD ds t++d):=hid hT;have HM:=hid hm;clear hc hT hsz hm hx hdd
   go_wp2_with (first
    | (refine wpList_load_mid rfl 26 (.tmp 13) (by rfl) b (o+t*16) (by rfl) (u8s d) _ HR.out Tryz.underlying26 rfl (winfo_dig.trans (congrArg some HUL.out.symm)) ?_)
    | ((refine wpList_store_fresh rfl 26 (.tmp 5) (.tmp 14) rfl _ wr.heap.size rfl Z (u8s d) 26 (by rfl) (by rfl) rfl (winfo_dig.trans (congrArg some HUL.out.symm)) (HZL.out.trans HUL.out.symm) (u8s_one d) ?_);intro w2 hw2 hE2 hz2;have HE2:Hid (Ext wr w2):=hid hE2;have HR3:=hid (RdN.of_Rd (hw2.rd HUL.out));have hownk:=own_below hown hE2;have hsz2:=Nat.le_of_lt hz2;clear hown hw2 hE2 hz2)
    | (at_builtin;refine wpList_app rfl (.tmp 15) (.tmp 16) 23 rfl w.heap.size 5 i0 (.int .u8 0) 1 1 Tryz.underlying23 hi hz0 hz1 hz2 rfl (by omega) A2 m c2 _ rfl hownk w2.heap.size _ 16 16 _ rfl HR3.out (u8s_one _) (by simp only[maxLen];omega) (by omega) (by omega) ?_;intro A4 c4 w4 hown4 hg4;have hb4:=below_app (hB.trans (HE2.out.mono hs)) hg4 hownk (Nat.le_refl _) (by omega)))
   go_roundw
   case rel=>exact⟨t+1,A4,c4,_,by omega,by go_num,rfl,by rw[HT.out,List.length_append,HM.out,HX.out],by rw[HT.out,u8s_append];exact hown4,hb4⟩
   case measure=>simp [intOf];omega
  ·obtain rfl:t=n:=by omega
   have HM:=hid hm;clear hm;go_wp2_with fail
   go_ret
   rw[HM.out,HTN.out] at hown;exact⟨⟨A2,c2,by rw[HM.out,HTN.out];rfl,hown⟩,hB⟩
end
section
theorem take_snoc' (d:List Int)(j:Nat)(h:j<d.length):d.take (j+1)=d.take j++[d.getD j 0]:=by
 have:d[j]?=some (d.getD j 0):=by simp [List.getD_eq_getElem?_getD,List.getElem?_eq_getElem h]
 rw[List.take_add_one,this];rfl
theorem rdigests_any (ds:List (List Int))(A:Option Addr)(n c:Nat)(w:World)(hl:RdN w w.heap.size 16 A n (celD ds))(hd:Dig16 ds)(hlen:ds.length=n)(hn:n≤1000000000) :
  Calls Tryz.prog 75 #[.slice A n c] w fun e w'=>(∃A' c',e=.returned (.slice A' (encL idD ds).length c')∧w'.ownsRow w.heap.size 5 1 (.slice A' (encL idD ds).length c') (encL idD ds).length (u8s (encL idD ds)))∧Below w.heap.size w w':=by
 obtain⟨i0,hi,hz0,hz1,hz2⟩:=info_parts winfo_u8;have hn0:(-9223372036854775808:Int)≤(n:Int):=by omega
 have hn1:(n:Int)≤9223372036854775807:=by omega
 have h9:=encInt_le9 (n:Int) hn0 hn1;have HCAT:Hid (∀t,(encTo idD ds t).length≤90000000000):=hid (fun t=>Nat.le_trans (encTo_le _ ds t) (by unfold encL;rw[List.length_append,encD_le ds hd,hlen];omega))
 have HL:=hid hl;have HN:=hid hlen;have HD:=hid hd;have HT0:Hid (encTo idD ds 0=encInt n):=hid (by unfold encTo;rw[hlen];simp)
 have HTN:Hid (encTo idD ds n=encL idD ds):=hid (by rw[←hlen];exact encTo_full _ ds)
 clear hl hlen hd h9;go_enter Tryz.func75,Tryz.ntmps75
 go_wp2_with (go_at_call 52;(with_reducible refine (rintL_any (n:Int) w hn0 hn1).mono ?_);rintro e w1 ⟨⟨A1,c1,rfl,hown1⟩,hB1⟩)
 go_loopw [4,3] (fun i s5 wr=>∃(t:Nat) (A:Option Addr) (c m:Nat),t≤n∧i=.int .i64 t∧s5=.slice A m c∧m=(encTo idD ds t).length∧wr.ownsRow w.heap.size 5 1 (.slice A m c) m (u8s (encTo idD ds t))∧Below w.heap.size w wr)
  (fun i _ _=>n-(intOf i).toNat)
 case atStart=>exact⟨0,_,_,_,Nat.zero_le _,rfl,rfl,by rw[HT0.out],by rw[HT0.out];exact hown1,hB1⟩
 case round =>
  clear hown1 hB1;obtain⟨t,A2,c2,m,ht,rfl,rfl,hm,hown,hB⟩:=hrel;have hs:=hB.size;obtain⟨wo,rfl⟩:∃x:World,x=wr:=⟨_,rfl⟩
  by_cases hlt:t<n
  ·obtain⟨-,b,o,rfl,hb,hc⟩:=rd_dig HL.out HD.out (by omega)
   have hx:=HD.out.at_ (by rw[HN.out];exact hlt:t<ds.length)
   have hT:=encTo_succ idD ds t [] (by rw[HN.out];exact hlt)
   have HCC:Hid (∀j,j<16→w.cell? ⟨b,o+t*16+j,none⟩=some (.int .u8 ((ds.getD t []).getD j 0))):=hid (fun j hj=>hc t j hlt hj)
   obtain⟨d,hdd⟩:∃d,d=ds.getD t []:=⟨_,rfl⟩
   rw[←hdd] at hx HCC hT;have HX:Hid (d.length=16):=hid hx.1;have hm2:m≤90000000000:=by rw[hm];exact HCAT.out t
   have HT:Hid (encTo idD ds (t+1)=encTo idD ds t++d):=hid hT;have HM:=hid hm;clear hc hT hm hx hdd;go_wp2_with fail
   go_loopw [5,3] (fun i s3 wr=>∃(j:Nat) (A:Option Addr) (c:Nat),j≤16∧i=.int .i64 j∧s3=.slice A (m+j) c∧wr.ownsRow w.heap.size 5 1 (.slice A (m+j) c) (m+j) (u8s (encTo idD ds t++d.take j))∧Below w.heap.size w wr)
    (fun i _ _=>16-(intOf i).toNat)
   case atStart=>exact⟨0,_,_,Nat.zero_le _,rfl,rfl,by rw[List.take_zero,List.append_nil];exact hown,hB⟩
   case round =>
    clear hown hB;obtain⟨j,A3,c3,hj,rfl,rfl,hown,hB⟩:=hrel;have hs3:=hB.size;by_cases hlj:j<16
    ·have c0:=(hB.cell (p:=⟨b,o+t*16+j,none⟩) hb).trans (HCC.out j hlj)
     have HTK:=hid (take_snoc' d j (by rw[HX.out];exact hlj))
     generalize d.getD j 0=x at *
     go_wp2_with (at_builtin;refine wpList_app rfl (.tmp 19) (.tmp 26) 23 rfl w.heap.size 5 i0 (.int .u8 0) 1 1 Tryz.underlying23 hi hz0 hz1 hz2 rfl (by omega) A3 (m+j) c3 _ rfl (hown.alloc _) (wr.heap.size+1) _ 1 1 [.int .u8 x] rfl (RdN.fresh [.int .u8 x] _ _ 1 1 rfl rfl rfl) (by intro u hu;rw[List.mem_singleton] at hu;subst hu;rfl) (by simp only[maxLen];omega) (by omega) (by simp;omega) ?_;intro A4 c4 w4 hown4 hg4;have hb4:=below_app (Below.alloc hB hs3 _) hg4 (hown.alloc _) (Nat.le_refl _) (by simp;omega))
     go_roundw
     case rel=>exact⟨j+1,A4,c4,by omega,by go_num,rfl,by rw[HTK.out,←List.append_assoc,u8s_append];exact hown4,hb4⟩
     case measure=>simp [intOf];omega
    ·obtain rfl:j=16:=by omega
     have HTK:Hid (d.take 16=d):=hid (List.take_of_length_le (by rw[HX.out];omega))
     rw[HTK.out,←HT.out] at hown;go_wp2_with fail
     go_roundw
     case rel=>exact⟨t+1,A3,c3,_,by omega,by go_num,rfl,by rw[HT.out,List.length_append,HM.out,HX.out],hown,hB⟩
     case measure=>simp [intOf];omega
  ·obtain rfl:t=n:=by omega
   have HM:=hid hm;clear hm;go_wp2_with fail
   go_ret
   rw[HM.out,HTN.out] at hown;exact⟨⟨A2,c2,by rw[HM.out,HTN.out];rfl,hown⟩,hB⟩
theorem fold_set_from:∀(V:List Value) (k:Nat) (Z:Array Value),k+V.length≤Z.size→(List.foldl (fun cs x=>cs.setIfInBounds x.2 x.1) Z (V.zipIdx k)).toList=Z.toList.take k++V++Z.toList.drop (k+V.length)
 | [],k,Z,_=>by simp
 | v::r,k,Z,h=>by
  simp only[List.length_cons] at h
  rw[List.zipIdx_cons,List.foldl_cons,fold_set_from r (k+1) _ (by simp;omega)]
  simp only[Array.toList_setIfInBounds]
  rw[List.drop_set_of_lt (by omega),List.take_add_one,List.take_set_of_le (by omega)]
  simp [List.getElem?_set_self (show k<Z.toList.length by simp;omega),Nat.add_comm,Nat.add_left_comm]
theorem fold_set (V:List Value)(Z:Array Value)(h:V.length=Z.size):List.foldl (fun cs x=>cs.setIfInBounds x.2 x.1) Z V.zipIdx=V.toArray:=by
 have h2:=fold_set_from V 0 Z (by omega)
 rw[List.take_zero,List.nil_append,Nat.zero_add,List.drop_of_length_le (by simp;omega),List.append_nil] at h2
 rw[←Array.toList_inj,h2]
theorem cutD_succ (l:List Int)(t:Nat):cutD l (t+1)=cutD l t++[(l.drop (16*t)).take 16]:=by simp [cutD,List.range_succ]
theorem cutD_length (l:List Int)(t:Nat):(cutD l t).length=t:=by simp [cutD]
theorem winfo_digz:(Tryz.prog.info? 26).map (fun i=>(i.zero,i.size,i.bytes))=some (some (.agg (u8s (List.replicate 16 0)).toArray),16,16):=by kernel_rfl
theorem gdigests_any (l:List Int)(A0:Option Addr)(n c:Nat)(w:World)(hl:Rd w w.heap.size A0 n (u8s l))(hby:Byt l)(hnc:n≤c)(hc:c≤9223372036854775807)(hn:n≤1000000000000) :
  Calls Tryz.prog 70 #[.slice A0 n c] w fun e w'=>(∃A' c',e=.returned (.tuple #[.slice A' (decD l).1.length c',.int .i64 (decD l).2.1,.int .i64 (decD l).2.2]) ∧
   w'.ownsRow w.heap.size 26 16 (.slice A' (decD l).1.length c') (decD l).1.length (celD (decD l).1))∧Below w.heap.size w w':=by
 obtain⟨i0,hi,hz0,hz1,hz2⟩:=info_parts winfo_digz;have hlen:l.length=n:=by simpa [u8s] using hl.1
 have HL:=hid hl;rcases cntI_cases l hby 16 (by decide) with ⟨er,hg,he⟩|⟨m,k,hg,h1,h9,hk,hm,henc⟩
 ·have HC:=hid hg
  have hne2:er≠0:=by rcases he with rfl|rfl<;>decide
  have HD:Hid (decD l=([],0,er)):=hid (by unfold decD;rw[hg,if_pos hne2])
  have hne:((er:Int)==0)=false:=by rcases he with rfl|rfl<;>rfl
  clear hg hl hlen he;go_enter Tryz.func70,Tryz.ntmps70
  go_wp2_with (go_at_call 116;(with_reducible refine (count16_any l _ n _ w HL.out hby hnc hc).mono ?_);rintro e w0 ⟨⟨a,b0,rfl,hab⟩,rfl⟩;rw[HC.out] at hab;rw[HC.out];clear hab)
  go_ret3
  exact⟨⟨none,0,by rw[HD.out];rfl,by rw[HD.out];exact World.ownsRow_nil _ _ _ _⟩,Ext.refl w⟩
 ·have HC:=hid hg
  obtain⟨b,o,rfl,hb,hcc⟩:=rd_u8 hl (by omega)
  have HCC:=hid hcc;have HLEN:=hid hlen;have hk1:k+m*16≤n:=by omega
  have HD:Hid (decD l=(cutD (l.drop k) m,(k:Int)+16*m,0)):=hid (by unfold decD;rw[hg];simp)
  have HCL:=hid (cutD_length (l.drop k));have HCS:=hid (cutD_succ (l.drop k));have ha:=fun (W:World) (a:Option Addr) (cap:Nat)=>run_arrayAt (P:=Tryz.prog) W 26 5 16 a 16 cap Tryz.underlying26 (Nat.le_refl _)
  clear hg hl hlen henc hk hcc;go_enter Tryz.func70,Tryz.ntmps70
  go_wp2_with (go_at_call 116;(with_reducible refine (count16_any l _ n _ w HL.out hby hnc hc).mono ?_);rintro e w0 ⟨⟨a,b0,rfl,hab⟩,rfl⟩;rw[HC.out] at hab;rw[HC.out];obtain⟨rfl,rfl⟩:=hab rfl)
  go_loopw [19,6,8] (fun i s6 s8 wr=>∃(t p:Nat) (A:Option Addr) (c':Nat),t≤m∧Hid (p=k+16*t)∧i=.int .i64 t∧s6=.int .i64 p∧s8=.slice A t c'∧wr.ownsRow w.heap.size 26 16 (.slice A t c') t (celD (cutD (l.drop k) t))∧Below w.heap.size w wr)
   (fun i _ _ _=>m-(intOf i).toNat)
  case atStart=>exact⟨0,k,none,0,Nat.zero_le _,hid (by omega),rfl,rfl,rfl,World.ownsRow_nil _ _ _ _,Ext.refl w⟩
  case round =>
   obtain⟨t,p,A,c',ht,HP,rfl,rfl,rfl,hown,hB⟩:=hrel;have hs:=hB.size;by_cases hlt:t<m
   ·have hp16:p+16≤n:=by have:=HP.out;omega
    obtain⟨d,hdd⟩:∃d,d=((l.drop k).drop (16*t)).take 16:=⟨_,rfl⟩
    have HDD:=hid hdd;have hd16:d.length=16:=by rw[hdd,List.length_take,List.length_drop,List.length_drop,HLEN.out];omega
    have HUL:Hid ((u8s d).length=16):=hid (by rw[u8s_length,hd16])
    have HR:Hid (wr.rangeAt b (o+p) (u8s d)):=hid (range_dig hd16 (fun j hj=>by
     rw[hB.cell (p:=⟨b,o+p+j,none⟩) hb,Nat.add_assoc,HCC.out (p+j) (by omega),hdd,List.drop_drop]
     congr 2
     rw[List.getD_eq_getElem?_getD,List.getD_eq_getElem?_getD,List.getElem?_take,if_pos hj,List.getElem?_drop,HP.out]))
    have HCT:Hid (celD (cutD (l.drop k) (t+1))=celD (cutD (l.drop k) t)++u8s d):=hid (by rw[HCS.out,celD_snoc,hdd])
    clear hdd hd16;have hl16:=HUL.out
    go_wp2_with (first
     | (refine wpList_load_mid rfl 26 (.tmp 27) (by rfl) b (o+p) (by rfl) (u8s d) _ HR.out Tryz.underlying26 rfl (winfo_dig.trans (congrArg some HUL.out.symm)) ?_)
     | (at_builtin;refine wpList_app rfl (.tmp 21) (.tmp 29) 117 rfl w.heap.size 26 i0 (.agg (u8s (List.replicate 16 0)).toArray) 16 16 Tryz.underlying117 hi hz0 hz1 hz2 rfl (by omega) A t c' _ rfl (hown.alloc _) (wr.heap.size+1) _ 1 1 (u8s d) rfl (RdN.fresh (u8s d) _ _ 16 1 (by rw[fold_set];exact HUL.out) rfl HUL.out) (u8s_one d) (by simp only[maxLen];omega) (by omega) (by simp;omega) ?_;intro A4 c4 w4 hown4 hg4;have hb4:=below_app (Below.alloc hB hs _) hg4 (hown.alloc _) (Nat.le_refl _) (by simp;omega)))
    go_roundw
    case rel=>exact⟨t+1,p+16,A4,c4,by omega,hid (by have:=HP.out;omega),by go_num,by go_num,rfl,by rw[HCT.out];exact hown4,hb4⟩
    case measure=>simp [intOf];omega
   ·obtain rfl:t=m:=by omega
    go_wp2_with fail
    go_ret3
    exact⟨⟨A,c',by rw[HD.out,HCL.out,HP.out];simp,by rw[HD.out,HCL.out];exact hown⟩,hB⟩
end
end Go.Proofs.YtjeecfjeooehhaaGreatDoor