/- patch.Valid of a patch that needs no other. Conditions: PatV, PatW; the tables of package patch are laid. -/
import Derived.Test.YtjeecfjeooehhaaGreatDoorM44
import Derived.Test.YtjeecfjeooehhaaGreatDoorM39
import Derived.Test.YtjeecfjeooehhaaGreatDoorM32
set_option linter.unusedSimpArgs false
set_option linter.unusedVariables false
set_option maxHeartbeats 16000000
set_option maxRecDepth 100000
namespace Go.Proofs.YtjeecfjeooehhaaGreatDoor
open Go.RowKit
open Lib (hid)
section
attribute [local go_sem ↓] wp_at_zero wp_at_succ
def hdB (p:PatA):Bool:=rnumB p.shop p.seq&&(winB p.day 1 1048576&&winB p.clause 0 255)
def validP (p:PatA):Int:=if hdB p=false then 5 else if 32<p.ops.length then 4 else if p.ops.length=0 then 1 else if p.ops.all operB=false then 1 else if 6800<(msgP p).length then 4 else 0
theorem all_upto (f:OpA→Bool)(L:List OpA)(h:∀(q:Nat) (x:OpA),L[q]?=some x→f x=true):L.all f=true:=by
 rw[List.all_eq_true];intro x hx;obtain⟨q,hq⟩:=List.mem_iff_getElem?.1 hx
 exact h q x hq
theorem all_not (f:OpA→Bool)(L:List OpA)(q:Nat)(x:OpA)(h:L[q]?=some x)(hf:f x=false):L.all f=false:=by
 rw[List.all_eq_false];exact⟨x,List.mem_of_getElem? h,by rw[hf];decide⟩
theorem pvalidE_any (p:PatA)(cs:List Value)(w:World)(hp:PatV w p cs)(hw:PatW p)(hn:p.needs=[])(hC:CTab w)(hU:STab w):Calls Tryz.prog 62 #[.agg cs.toArray] w fun e w'=>e=.returned (.int .i64 (validP p))∧Ext w w':=by
 have hp2:=hp;obtain⟨X,A,n,c,B,m,d,rfl,hS⟩:=hp;have HS:=hid hS;have HMS:Hid (∀W,Ext w W→Calls Tryz.prog 28 #[.agg (patCl p (.slice A n c) (.slice B m d)).toArray] W fun e w'=>(∃A c,e=.returned (.slice A (msgP p).length c))∧Ext W w'):=hid (fun W hW=>(pmessage_any p _ W (hp2.ext hW) hw).mono fun e w' ⟨⟨A',c',h1,_⟩,h2⟩=>⟨⟨A',c',h1⟩,h2⟩)
 obtain⟨b0,hb0⟩:∃b,b=hdB p:=⟨_,rfl⟩
 obtain⟨ml,hml⟩:∃k,k=(msgP p).length:=⟨_,rfl⟩
 obtain⟨V,hV⟩:∃v,v=validP p:=⟨_,rfl⟩
 have HLM:Hid (p.ops.length=m):=hid hS.len.2.2;have HVV:Hid (V=if b0=false then 5 else if 32<m then 4 else if m=0 then 1 else if p.ops.all operB=false then 1 else if 6800<ml then 4 else 0):=hid (by rw[hV,hb0,hml,←HLM.out];rfl)
 rw[←hml] at HMS;rw[←hV]
 have HOX:Hid (∀q:Nat,q<m→∃(b o:Nat) (x:OX),B=some ⟨b,o,none⟩∧p.ops[q]?=some x.o∧x.cs.length=28∧(∀v∈x.cs,v.oneCell'=true)∧(∀W,Ext w W→W.rangeAt b (o+q*28) x.cs)∧(∀W,Ext w W→Calls Tryz.prog 110 #[.agg x.cs.toArray] W fun e w'=>e=.returned (.bool (operB x.o))∧Ext W w')):=hid (fun q hq=>by
  have hl:=hS.len;obtain⟨b,o,hA,hb,hc⟩:=hS.ops.2 (by omega)
  have hx:X[q]?=some (X[q]'(by omega)):=List.getElem?_eq_getElem _
  have hm:X[q]'(by omega)∈X:=List.getElem_mem _
  have ho:p.ops[q]?=some (X[q]'(by omega)).o:=by
   have h:=congrArg (fun l=>l[q]?) hS.same
   try dsimp only at h
   rw[List.getElem?_map,hx] at h
   exact h.symm
  refine⟨b,o,_,hA,ho,(hS.each _ hm).len,(hS.each _ hm).one,fun W hW j v hv=>?_,fun W hW=>oper_any _ _ W ((hS.each _ hm).ext hW) (hC.below hW) (hU.below hW)⟩
  have hj:j<28:=by
   have h1:=(List.getElem?_eq_some_iff.1 hv).1
   rw[(hS.each _ hm).len] at h1;exact h1
  rw[Nat.add_assoc];exact (hW.cell (p:=⟨b,o+(q*28+j),none⟩) hb).trans (hc (q*28+j) v ((flatK_at oxC 28 X (fun y hy=>(hS.each y hy).len) q _ hx j hj).trans hv)))
 obtain rfl:n=0:=by have h:=hS.len.1;rw[hn] at h;exact h.symm
 have hmf:m≤1000000:=hS.ofew;have hmd:m≤d:=hS.ole;clear hp2 hS hw hV hml;obtain⟨shop,seq,day,needs,clause,ops,sl⟩:=p;have hb0':b0=(rnumB shop seq&&(winB day 1 1048576&&winB clause 0 255)):=hb0;obtain⟨v1,hv1⟩:∃v,v=rnumB shop seq:=⟨_,rfl⟩
 obtain⟨v2,hv2⟩:∃v,v=winB day 1 1048576:=⟨_,rfl⟩
 obtain⟨v3,hv3⟩:∃v,v=winB clause 0 255:=⟨_,rfl⟩
 have HN1:Hid (∀W,Calls Tryz.prog 108 #[.int .i64 shop,.int .i64 seq] W fun e w2=>e=.returned (.bool v1)∧W=w2):=hid (fun W=>by rw[hv1];exact pnumbered_any shop seq W)
 have HW1:Hid (∀W,Calls Tryz.prog 109 #[.int .i64 day,.int .i64 1,.int .i64 1048576] W fun e w2=>e=.returned (.bool v2)∧W=w2):=hid (fun W=>by rw[hv2];exact pwithin_any day 1 1048576 W)
 have HW2:Hid (∀W,Calls Tryz.prog 109 #[.int .i64 clause,.int .i64 0,.int .i64 255] W fun e w2=>e=.returned (.bool v3)∧W=w2):=hid (fun W=>by rw[hv3];exact pwithin_any clause 0 255 W)
 rw[←hv1,←hv2,←hv3] at hb0';have HB0:=hid hb0';clear hb0' hb0 hv1 hv2 hv3 hn hC hU;dsimp only at HVV HLM HOX HMS;unfold patCl at HMS⊢;dsimp only at HMS⊢;go_enter Tryz.func62,Tryz.ntmps62
 go_upto_region 1 with fail
 obtain⟨w1,hw1⟩:∃x,x=w.alloc (.cells #[.int .i64 shop,.int .i64 seq,.int .i64 day,.slice A 0 c,.int .i64 clause,.slice B m d,.string sl] 42):=⟨_,rfl⟩
 change Code.wp _ _ _ _ (w.alloc (.cells #[.int .i64 shop,.int .i64 seq,.int .i64 day,.slice A 0 c,.int .i64 clause,.slice B m d,.string sl] 42))
 rw[←hw1];have E1:Hid (Ext w w1):=hid (by rw[hw1];exact (Ext.refl w).alloc _)
 have B1:Hid (Blk w1 w.heap.size 42 [.int .i64 shop,.int .i64 seq,.int .i64 day,.slice A 0 c,.int .i64 clause,.slice B m d,.string sl]):=hid (by rw[hw1];exact Blk.fresh' _ _ _ _ _ rfl rfl)
 clear hw1;have c0:w1.cell? ⟨w.heap.size,0,none⟩=some (.int .i64 shop):=B1.out.cell 0
 have c1:w1.cell? ⟨w.heap.size,1,none⟩=some (.int .i64 seq):=B1.out.cell 1
 have c2:w1.cell? ⟨w.heap.size,2,none⟩=some (.int .i64 day):=B1.out.cell 2
 have c3:w1.cell? ⟨w.heap.size,3,none⟩=some (.slice A 0 c):=B1.out.cell 3
 have c4:w1.cell? ⟨w.heap.size,4,none⟩=some (.int .i64 clause):=B1.out.cell 4
 have c5:w1.cell? ⟨w.heap.size,5,none⟩=some (.slice B m d):=B1.out.cell 5
 go_cut [7] from 8 to 25 (fun s7 wx=>s7=.bool (!b0)∧w1=wx)
 case first =>
  cases v1
  ·have HQ:Hid (b0=false):=hid (by rw[HB0.out];rfl)
   go_wp2_with (go_at_call 108;(with_reducible refine (HN1.out _).mono ?_);rintro e w2 ⟨rfl,rfl⟩)
   go_meet
   exact⟨by rw[HQ.out];rfl,rfl⟩
  cases v2
  ·have HQ:Hid (b0=false):=hid (by rw[HB0.out];rfl)
   go_wp2_with (first|(go_at_call 108;(with_reducible refine (HN1.out _).mono ?_);rintro e w2 ⟨rfl,rfl⟩)|(go_at_call 109;(with_reducible refine (HW1.out _).mono ?_);rintro e w2 ⟨rfl,rfl⟩))
   go_meet
   exact⟨by rw[HQ.out];rfl,rfl⟩
  cases v3
  ·have HQ:Hid (b0=false):=hid (by rw[HB0.out];rfl)
   go_wp2_with (first|(go_at_call 108;(with_reducible refine (HN1.out _).mono ?_);rintro e w2 ⟨rfl,rfl⟩)|(go_at_call 109;first|((with_reducible refine (HW1.out _).mono ?_);rintro e w2 ⟨rfl,rfl⟩)|((with_reducible refine (HW2.out _).mono ?_);rintro e w2 ⟨rfl,rfl⟩)))
   go_meet
   exact⟨by rw[HQ.out];rfl,rfl⟩
  ·have HQ:Hid (b0=true):=hid (by rw[HB0.out];rfl)
   go_wp2_with (first|(go_at_call 108;(with_reducible refine (HN1.out _).mono ?_);rintro e w2 ⟨rfl,rfl⟩)|(go_at_call 109;first|((with_reducible refine (HW1.out _).mono ?_);rintro e w2 ⟨rfl,rfl⟩)|((with_reducible refine (HW2.out _).mono ?_);rintro e w2 ⟨rfl,rfl⟩)))
   go_meet
   exact⟨by rw[HQ.out];rfl,rfl⟩
 case rest =>
 obtain⟨rfl,rfl⟩:=hcut;clear c0 c1 c2 c4 HN1 HW1 HW2 HB0
 cases b0
 case false =>
  have HQ:Hid (V=5):=hid (by rw[HVV.out];rfl)
  go_wp2_with fail
  go_ret
  exact⟨by rw[HQ.out];rfl,E1.out⟩
 have HV1:Hid (V=if 32<m then 4 else if m=0 then 1 else if ops.all operB=false then 1 else if 6800<ml then 4 else 0):=hid (by rw[HVV.out];rfl)
 by_cases hm32:32<m
 ·have HQ:Hid (V=4):=hid (by rw[HV1.out,if_pos hm32])
  have h1:decide ((32:Int)<(m:Int))=true:=decide_eq_true (by omega)
  have h2:decide (32<m)=true:=decide_eq_true hm32;clear hm32;go_wp2_with fail
  go_ret
  exact⟨by rw[HQ.out];rfl,E1.out⟩
 have HV2:Hid (V=if m=0 then 1 else if ops.all operB=false then 1 else if 6800<ml then 4 else 0):=hid (by rw[HV1.out,if_neg hm32])
 have h1:decide ((32:Int)<(m:Int))=false:=decide_eq_false (by omega)
 have h2:decide (32<m)=false:=decide_eq_false hm32;clear hm32 HV1 HVV;by_cases hm0:m=0
 ·have HQ:Hid (V=1):=hid (by rw[HV2.out,if_pos hm0])
  subst hm0;go_wp2_with fail
  go_ret
  exact⟨by rw[HQ.out];rfl,E1.out⟩
 have HV3:Hid (V=if ops.all operB=false then 1 else if 6800<ml then 4 else 0):=hid (by rw[HV2.out,if_neg hm0])
 have h3:((m:Int)==0)=false:=by rw[beq_eq_false_iff_ne];omega
 have h4:(m==0)=false:=by rw[beq_eq_false_iff_ne];exact hm0
 clear HV2;go_upto_region 7 with fail
 clear h1 h2 h3 h4;go_wp2_with fail
 go_loopw [3,4,39] (fun _ _ s39 wr=>s39=.int .i64 0∧w1=wr) (fun _ _ _ _=>0)
 case atStart=>exact⟨rfl,rfl⟩
 case round =>
  obtain⟨rfl,rfl⟩:=hrel;go_wp2_with fail
  go_loopw [6,77] (fun _ s77 wr=>∃q:Nat,q≤m∧s77=.int .i64 (q:Int)∧Hid (∀j x,j<q→ops[j]?=some x→operB x=true)∧Ext w1 wr) (fun _ s77 _=>m-(intOf s77).toNat)
  case atStart=>exact⟨0,Nat.zero_le _,rfl,hid (fun j x h=>absurd h (Nat.not_lt_zero _)),Ext.refl _⟩
  case round =>
   obtain⟨q,hq,rfl,HALL,hEi⟩:=hrel;obtain⟨wi,rfl⟩:∃x:World,x=wr:=⟨_,rfl⟩
   have EI:=hid hEi;clear hEi;by_cases hlt:q<m
   ·obtain⟨b,o,⟨x,ds⟩,hB,hget,hl,hone,hrg,hcl⟩:=HOX.out q hlt
    subst hB;dsimp only at hget hl hone hrg hcl;have HRG:=hid (hrg wi (E1.out.next EI.out));have HL:=hid hl;have HONE:=hid hone;have HCL:=hid hcl;have HGET:=hid hget;obtain⟨ob,hob⟩:∃v,v=operB x:=⟨_,rfl⟩
    rw[←hob] at HCL;have HOB:=hid hob;have hld:=hl;clear hget hl hone hrg hcl hob
    cases ob
    ·have HQ:Hid (V=1):=hid (by rw[HV3.out,if_pos (all_not operB ops q x HGET.out HOB.out.symm)])
     go_wp2_with (first
      | ((with_reducible refine wpList_load_row 76 b (o+q*28) ds HRG.out Tryz.underlying76 rfl (op_info.trans (congrArg some HL.out.symm)) ?_ ?_ ?_);kernel_rfl;rfl)
      | (refine wpList_store_freshw rfl 76 (.tmp 6) (.tmp 80) rfl wi.heap.size rfl [.int .i64 0,.int .i64 0,.int .i64 0,.int .i64 0,.int .i64 0,.int .i64 0,.int .i64 0,.int .i64 0,.int .i64 0,.string ⟨#[]⟩,.int .i64 0,.int .i64 0,.int .i64 0,.int .i64 0,.slice none 0 0,.int .i64 0,.int .i64 0,.int .i64 0,.int .i64 0,.int .i64 0,.int .i64 0,.int .i64 0,.int .i64 0,.int .i64 0,.slice none 0 0,.slice none 0 0,.slice none 0 0,.slice none 0 0] ds 76 (by kernel_rfl) (by kernel_rfl) (op_info.trans (congrArg some HL.out.symm)) (Eq.trans (b:=28) rfl HL.out.symm) HONE.out ?_;intro w5 hw5 hE5 hz5;have B5:=hid hw5;have E5:=hid hE5;clear hw5 hE5 hz5)
      | (refine wpList_load_blk rfl 76 (.tmp 6) rfl wi.heap.size (by kernel_rfl) B5.out Tryz.underlying76 rfl (op_info.trans (congrArg some HL.out.symm)) ?_)
      | (go_at_call 110;(with_reducible refine (HCL.out w5 (E1.out.next (EI.out.next E5.out))).mono ?_);rintro e w6 ⟨rfl,hE6⟩;have E6:Hid (Ext w w6):=hid ((E1.out.next (EI.out.next E5.out)).next hE6);clear hE6))
     go_ret
     exact⟨by rw[HQ.out];rfl,E6.out⟩
    ·go_wp2_with (first
      | ((with_reducible refine wpList_load_row 76 b (o+q*28) ds HRG.out Tryz.underlying76 rfl (op_info.trans (congrArg some HL.out.symm)) ?_ ?_ ?_);kernel_rfl;rfl)
      | (refine wpList_store_freshw rfl 76 (.tmp 6) (.tmp 80) rfl wi.heap.size rfl [.int .i64 0,.int .i64 0,.int .i64 0,.int .i64 0,.int .i64 0,.int .i64 0,.int .i64 0,.int .i64 0,.int .i64 0,.string ⟨#[]⟩,.int .i64 0,.int .i64 0,.int .i64 0,.int .i64 0,.slice none 0 0,.int .i64 0,.int .i64 0,.int .i64 0,.int .i64 0,.int .i64 0,.int .i64 0,.int .i64 0,.int .i64 0,.int .i64 0,.slice none 0 0,.slice none 0 0,.slice none 0 0,.slice none 0 0] ds 76 (by kernel_rfl) (by kernel_rfl) (op_info.trans (congrArg some HL.out.symm)) (Eq.trans (b:=28) rfl HL.out.symm) HONE.out ?_;intro w5 hw5 hE5 hz5;have B5:=hid hw5;have E5:=hid hE5;clear hw5 hE5 hz5)
      | (refine wpList_load_blk rfl 76 (.tmp 6) rfl wi.heap.size (by kernel_rfl) B5.out Tryz.underlying76 rfl (op_info.trans (congrArg some HL.out.symm)) ?_)
      | (go_at_call 110;(with_reducible refine (HCL.out w5 (E1.out.next (EI.out.next E5.out))).mono ?_);rintro e w6 ⟨rfl,hE6⟩;have E6:Hid (Ext w1 w6):=hid ((EI.out.next E5.out).next hE6);clear hE6))
     exact⟨⟨_,_,_,_,_,_,_,_,_,_,⟨q+1,by omega,by go_num,hid (fun j y hj hy=>by
      rcases Nat.lt_or_ge j q with h|h
      ·exact HALL.out j y h hy
      ·obtain rfl:j=q:=by omega
       rw[HGET.out] at hy;rw[←Option.some.inj hy];exact HOB.out.symm),E6.out⟩,rfl⟩,by simp [intOf];omega⟩
   ·obtain rfl:q=m:=by omega
    have HV4:Hid (V=if 6800<ml then 4 else 0):=hid (by
     have h:ops.all operB=true:=all_upto operB ops (fun j x hx=>HALL.out j x (by have h1:=(List.getElem?_eq_some_iff.1 hx).1;rw[HLM.out] at h1;exact h1) hx)
     rw[HV3.out,h];rfl)
    have BI:=hid (B1.out.ext EI.out);have EWI:=hid (E1.out.next EI.out);by_cases h68:6800<ml
    ·have HQ:Hid (V=4):=hid (by rw[HV4.out,if_pos h68])
     have h1:decide ((6800:Int)<(ml:Int))=true:=decide_eq_true (by omega)
     have h2:decide (6800<ml)=true:=decide_eq_true h68;clear h68
     go_wp2_with (first
      | (refine wpList_load_blk rfl 42 (.tmp 1) rfl w.heap.size (by kernel_rfl) BI.out Tryz.underlying42 rfl (pat_info.trans rfl) ?_)
      | (go_at_call 28;(with_reducible refine (HMS.out wi EWI.out).mono ?_);rintro e w6 ⟨⟨A6,c6,rfl⟩,hE6⟩;have E6:Hid (Ext w w6):=hid (EWI.out.next hE6);clear hE6))
     go_ret
     exact⟨by rw[HQ.out];rfl,E6.out⟩
    ·have HQ:Hid (V=0):=hid (by rw[HV4.out,if_neg h68])
     have h1:decide ((6800:Int)<(ml:Int))=false:=decide_eq_false (by omega)
     have h2:decide (6800<ml)=false:=decide_eq_false h68;clear h68
     go_wp2_with (first
      | (refine wpList_load_blk rfl 42 (.tmp 1) rfl w.heap.size (by kernel_rfl) BI.out Tryz.underlying42 rfl (pat_info.trans rfl) ?_)
      | (go_at_call 28;(with_reducible refine (HMS.out wi EWI.out).mono ?_);rintro e w6 ⟨⟨A6,c6,rfl⟩,hE6⟩;have E6:Hid (Ext w w6):=hid (EWI.out.next hE6);clear hE6))
     go_ret
     exact⟨by rw[HQ.out];rfl,E6.out⟩
end
section
attribute [local go_sem ↓] wp_at_zero wp_at_succ
theorem RdN.wide {w w':World}{g size n:Nat}{A:Option Addr}{cs ds:List Value}{t:TypeId}(h:RdN w w.heap.size size A n cs)(hk:Kept (fun b=>b=g) w w')(hb:Blk w g t ds)(h0:ds.length<cs.length):RdN w' w'.heap.size size A n cs:=by
 refine⟨h.1,fun hn=>?_⟩
 obtain⟨b,o,hA,hbl,hc⟩:=h.2 hn
 have hne:b≠g:=fun e=>by
  have h1:cs[cs.length-1]?=some (cs[cs.length-1]'(by omega)):=List.getElem?_eq_getElem _
  have h3:=hc _ _ h1;rw[e,hb.cell,List.getElem?_eq_none (by omega)] at h3
  cases h3
 exact⟨b,o,hA,Nat.lt_of_lt_of_le hbl hk.size,fun j u hu=>(hk.cell (p:=⟨b,o+j,none⟩) hbl (fun e=>hne e)).trans (hc j u hu)⟩
theorem byt_flat {α:Type}{f:α→List Int}:∀ {l:List α},(∀x∈l,Byt (f x))→Byt (l.flatMap f)
 | [],_=>Byt.nil
 | x::l,h=>by
  rw[List.flatMap_cons];exact (h x (List.mem_cons_self ..)).app (byt_flat fun y hy=>h y (List.mem_cons_of_mem _ hy))
theorem byt_ints {l:List Int}(h:∀x∈l,-9223372036854775808≤x∧x≤9223372036854775807)(hn:l.length≤1000000):Byt (encL encInt l) :=
 (encInt_byt _ (by omega) (by omega)).app (byt_flat fun x hx=>encInt_byt x (h x hx).1 (h x hx).2)
theorem byt_typ {x:TyN}(h:TyW [x]):Byt (encT [x]):=by
 have e:encT [x]=encL encInt (tyI x []):=by simp [encT]
 rw[e];exact byt_ints (tyI_i64 h) (by simp [tyI])
theorem byt_no_strs:Byt (encL encB []):=(encInt_byt _ (by decide) (by decide)).app Byt.nil
theorem byt_no_ints:Byt (encL encInt []):=(encInt_byt _ (by decide) (by decide)).app Byt.nil
theorem onePF_byt (k s q z s2 q2 z2 nn m:Int)(nam:ByteArray)(tk ts tq tz yk ys yq yz nk nu ns nQ nz:Int)(shop seq day cl:Int)(sl:ByteArray)(hw:PatW (oneP shop seq day cl (opF k s q z s2 q2 z2 nn m nam ⟨tk,⟨ts,tq,tz⟩⟩ ⟨yk,⟨ys,yq,yz⟩⟩ nk nu ns nQ nz) sl)):Byt (encP (oneP shop seq day cl (opF k s q z s2 q2 z2 nn m nam ⟨tk,⟨ts,tq,tz⟩⟩ ⟨yk,⟨ys,yq,yz⟩⟩ nk nu ns nQ nz) sl)):=by
 have ho:=hw.ops _ (List.mem_singleton.2 rfl);have hsl:=hw.sl;have hnm:=ho.name;have e1:encO (opF k s q z s2 q2 z2 nn m nam ⟨tk,⟨ts,tq,tz⟩⟩ ⟨yk,⟨ys,yq,yz⟩⟩ nk nu ns nQ nz)=encL encInt [k,s,q,z,s2,q2,z2,nn,m]++encB nam++encT [⟨tk,⟨ts,tq,tz⟩⟩]++(encL encInt [nk,nu,ns,nQ,nz]++encT [⟨yk,⟨ys,yq,yz⟩⟩]++encL encInt []++encL encB [])++encL encB []:=rfl;have e2:encP (oneP shop seq day cl (opF k s q z s2 q2 z2 nn m nam ⟨tk,⟨ts,tq,tz⟩⟩ ⟨yk,⟨ys,yq,yz⟩⟩ nk nu ns nQ nz) sl)=encL encInt [shop,seq,day,cl]++encL encInt []++encInt 1++(encO (opF k s q z s2 q2 z2 nn m nam ⟨tk,⟨ts,tq,tz⟩⟩ ⟨yk,⟨ys,yq,yz⟩⟩ nk nu ns nQ nz)++[])++encB sl:=rfl;have h1:Byt (encL encInt [k,s,q,z,s2,q2,z2,nn,m]):=byt_ints (opN_i64 ho) (show _≤1000000 from by simp)
 have h2:Byt (encB nam):=encB_byt nam (Nat.le_trans hnm (by decide))
 have h3:Byt (encT [⟨tk,⟨ts,tq,tz⟩⟩]):=byt_typ ho.ty;have h4:Byt (encL encInt [nk,nu,ns,nQ,nz]):=byt_ints (nodN_i64 ho.node) (show _≤1000000 from by simp)
 have h5:Byt (encT [⟨yk,⟨ys,yq,yz⟩⟩]):=byt_typ ho.node.ty;have h6:Byt (encL encInt [shop,seq,day,cl]):=byt_ints (four_i64 hw.nums) (show _≤1000000 from by simp)
 rw[e2,e1];exact ((((h6.app byt_no_ints).app (encInt_byt 1 (by decide) (by decide))).app (((((h1.app h2).app h3).app (((h4.app h5).app byt_no_ints).app byt_no_strs)).app byt_no_strs).app Byt.nil)).app (encB_byt sl (Nat.le_trans hsl (by decide))))
theorem psign_one (k s q z s2 q2 z2 nn m:Int)(nam:ByteArray)(tk ts tq tz yk ys yq yz nk nu ns nQ nz:Int)(shop day cl:Int)(sl seed:ByteArray)(h p sq:Nat)(cs:List Value)(w:World)(hs:seed.size=32)(hp:PatV w (oneP shop (sq:Int) day cl (opF k s q z s2 q2 z2 nn m nam ⟨tk,⟨ts,tq,tz⟩⟩ ⟨yk,⟨ys,yq,yz⟩⟩ nk nu ns nQ nz) sl) cs)(hw:PatW (oneP shop (sq:Int) day cl (opF k s q z s2 q2 z2 nn m nam ⟨tk,⟨ts,tq,tz⟩⟩ ⟨yk,⟨ys,yq,yz⟩⟩ nk nu ns nQ nz) sl))(hv:validP (oneP shop (sq:Int) day cl (opF k s q z s2 q2 z2 nn m nam ⟨tk,⟨ts,tq,tz⟩⟩ ⟨yk,⟨ys,yq,yz⟩⟩ nk nu ns nQ nz) sl)=0)(h4:h≤4)(hpw:p=2^h)(hq1:1≤sq)(hqp:sq≤p)(hm:(msgP (oneP shop (sq:Int) day cl (opF k s q z s2 q2 z2 nn m nam ⟨tk,⟨ts,tq,tz⟩⟩ ⟨yk,⟨ys,yq,yz⟩⟩ nk nu ns nQ nz) sl)).length≤1000000)(hK:KTab w)(hC:CTab w)(hU:STab w) :
  Calls Tryz.prog 27 #[.agg (keyC seed (h:Int)).toArray,.agg cs.toArray] w fun e w'=>(∃cs':List Value,e=.returned (.tuple #[.agg cs'.toArray,.int .i64 0])∧PatV w' (oneP shop (sq:Int) day cl (opF k s q z s2 q2 z2 nn m nam ⟨tk,⟨ts,tq,tz⟩⟩ ⟨yk,⟨ys,yq,yz⟩⟩ nk nu ns nQ nz) (strOf (signL seed h (sq-1) (strOf (msgP (oneP shop (sq:Int) day cl (opF k s q z s2 q2 z2 nn m nam ⟨tk,⟨ts,tq,tz⟩⟩ ⟨yk,⟨ys,yq,yz⟩⟩ nk nu ns nQ nz) sl)))))) cs')∧Ext w w':=by
 have hp2:=hp;obtain⟨X,A,n,c,B,m',d,hcs,hS⟩:=hp;obtain rfl:n=0:=hS.len.1.symm
 obtain rfl:m'=1:=hS.len.2.2.symm
 have hcl:cs=[.int .i64 shop,.int .i64 (sq:Int),.int .i64 day,.slice A 0 c,.int .i64 cl,.slice B 1 d,.string sl]:=hcs;subst hcl
 have hp16:p≤16:=by
  have:=Nat.pow_le_pow_right (show 0<2 by decide) h4
  omega
 have hpz:(2:Int)^h=(p:Int):=by rw[hpw];exact_mod_cast rfl
 have HVL:Hid (∀W,Ext w W→Calls Tryz.prog 62 #[.agg #[.int .i64 shop,.int .i64 (sq:Int),.int .i64 day,.slice A 0 c,.int .i64 cl,.slice B 1 d,.string sl]] W fun e w'=>e=.returned (.int .i64 0)∧Ext W w'):=hid (fun W hW=>by rw[←hv];exact pvalidE_any _ [.int .i64 shop,.int .i64 (sq:Int),.int .i64 day,.slice A 0 c,.int .i64 cl,.slice B 1 d,.string sl] W (hp2.ext hW) hw rfl (hC.below hW) (hU.below hW))
 obtain⟨Q0,hQ0⟩:∃P,P=pubC (nodeV seed h 0) (h:Int):=⟨_,rfl⟩
 have HPL:Hid (Q0.length=17):=hid (by rw[hQ0];exact pubC_len _ _ (nodeV_dig _ _ _).l)
 have HP1:Hid (∀v∈Q0,v.oneCell'=true):=hid (by rw[hQ0];exact pubC_one _ _)
 have HPU:Hid (∀W,Ext w W→Calls Tryz.prog 22 #[.agg (keyC seed (h:Int)).toArray] W fun e w'=>e=.returned (.tuple #[.agg Q0.toArray,.int .i64 0])∧Ext W w'):=hid (fun W hW=>by
  rw[hQ0];exact kpublic_any seed h W hs h4 (hK.below hW))
 have hwp:IntKind.i64.wrap (p:Int)=(p:Int):=wrap_id _ (by omega) (by omega)
 obtain⟨ML,hML⟩:∃M,M=msgP (oneP shop (sq:Int) day cl (opF k s q z s2 q2 z2 nn m nam ⟨tk,⟨ts,tq,tz⟩⟩ ⟨yk,⟨ys,yq,yz⟩⟩ nk nu ns nQ nz) sl):=⟨_,rfl⟩
 obtain⟨M,hM⟩:∃M,M=strOf ML:=⟨_,rfl⟩
 obtain⟨ml,hml⟩:∃k,k=ML.length:=⟨_,rfl⟩
 obtain⟨S,hSS⟩:∃S,S=strOf (signL seed h (sq-1) (strOf ML)):=⟨_,rfl⟩
 obtain⟨EP,hEP⟩:∃M,M=encP (oneP shop (sq:Int) day cl (opF k s q z s2 q2 z2 nn m nam ⟨tk,⟨ts,tq,tz⟩⟩ ⟨yk,⟨ys,yq,yz⟩⟩ nk nu ns nQ nz) sl):=⟨_,rfl⟩
 obtain⟨el,hel⟩:∃k,k=EP.length:=⟨_,rfl⟩
 obtain⟨iq,hiq⟩:∃i:Nat,i=sq-1:=⟨_,rfl⟩
 have hsub:(sq:Int)-1=(iq:Int):=by omega
 have hwi:IntKind.i64.wrap (iq:Int)=(iq:Int):=wrap_id _ (by omega) (by omega)
 have HMS:Hid (∀W,Ext w W→Calls Tryz.prog 28 #[.agg #[.int .i64 shop,.int .i64 (sq:Int),.int .i64 day,.slice A 0 c,.int .i64 cl,.slice B 1 d,.string sl]] W fun e w'=>(∃A' c',e=.returned (.slice A' ml c')∧Rd w' w'.heap.size A' ml (u8s ML))∧Ext W w'):=hid (fun W hW=>by
  rw[hml,hML];exact (pmessage_any _ [.int .i64 shop,.int .i64 (sq:Int),.int .i64 day,.slice A 0 c,.int .i64 cl,.slice B 1 d,.string sl] W (hp2.ext hW) hw).mono fun e w' ⟨⟨A',c',h1,h2,_⟩,h3⟩=>⟨⟨A',c',h1,h2⟩,h3⟩)
 have HSG:Hid (∀W,Ext w W→Calls Tryz.prog 39 #[.string seed,.int .i64 (h:Int),.int .i64 (iq:Int),.string M] W fun e w'=>e=.returned (.tuple #[.string S,.int .i64 0])∧Ext W w'):=hid (fun W hW=>by
  rw[hSS,hM,←hiq];exact sign_any seed (strOf ML) h iq p W hs (by omega) hpw (by omega) (by rw[strOf_size,hML];exact hm) (hK.below hW))
 have HEN:Hid (∀W cs2,PatV W (oneP shop (sq:Int) day cl (opF k s q z s2 q2 z2 nn m nam ⟨tk,⟨ts,tq,tz⟩⟩ ⟨yk,⟨ys,yq,yz⟩⟩ nk nu ns nQ nz) sl) cs2→Calls Tryz.prog 63 #[.agg cs2.toArray] W fun e w'=>(∃A' c',e=.returned (.slice A' el c')∧Rd w' w'.heap.size A' el (u8s EP)∧el≤c'∧c'≤9223372036854775807)∧Ext W w'):=hid (fun W cs2 h1=>by
  rw[hel,hEP];exact (pencode_any _ cs2 W h1 hw).mono fun e w' ⟨⟨A',c',h1,h2⟩,h3⟩=>⟨⟨A',c',h1,Rd.of_own h2,(slice_cap h2).1,(slice_cap h2).2⟩,h3⟩)
 have HEV:Hid (∀W,Ext w W→PatV W (oneP shop (sq:Int) day cl (opF k s q z s2 q2 z2 nn m nam ⟨tk,⟨ts,tq,tz⟩⟩ ⟨yk,⟨ys,yq,yz⟩⟩ nk nu ns nQ nz) sl) [.int .i64 shop,.int .i64 (sq:Int),.int .i64 day,.slice A 0 c,.int .i64 cl,.slice B 1 d,.string sl]):=hid (fun W hW=>hp2.ext hW)
 have HRD:Hid (∀(W:World) (A':Option Addr) (c' g:Nat),Blk W g 89 [.slice A' el c',.bool false]→Rd W W.heap.size A' el (u8s EP)→el≤c'→c'≤9223372036854775807→Calls Tryz.prog 36 #[.pointer (some ⟨g,0,none⟩)] W fun e w'=>(∃(A8 A10:Option Addr) (c8 c10:Nat) (A7:Option Addr) (c7:Nat),e=.returned (.agg #[.int .i64 shop,.int .i64 (sq:Int),.int .i64 day,.slice none 0 0,.int .i64 cl,.slice A7 1 c7,.string sl])∧c8≤9223372036854775807∧c10≤9223372036854775807∧RdN w' w'.heap.size 28 A7 1 [.int .i64 k,.int .i64 s,.int .i64 q,.int .i64 z,.int .i64 s2,.int .i64 q2,.int .i64 z2,.int .i64 nn,.int .i64 m,.string nam,.int .i64 tk,.int .i64 ts,.int .i64 tq,.int .i64 tz,.slice none 0 0,.int .i64 nk,.int .i64 nu,.int .i64 ns,.int .i64 nQ,.int .i64 nz,.int .i64 yk,.int .i64 ys,.int .i64 yq,.int .i64 yz,.slice none 0 0,.slice none 0 0,.slice A8 0 c8,.slice A10 0 c10]∧1≤c7∧c7≤9223372036854775807)∧Kept (fun b=>b=g) W w'):=hid (fun W A' c' g h1 h2 h3 h5=>by
  have hel1:el≤1000000000:=by rw[hel,hEP];exact hw.size
  have hep:0<el:=by rw[hel,hEP];unfold encP encL;simp only[List.length_append,encInt_length];omega
  have hby:Byt EP:=by rw[hEP];exact onePF_byt _ _ _ _ _ _ _ _ _ _ _ _ _ _ _ _ _ _ _ _ _ _ _ _ _ _ _ _ hw
  have hR:RdrL W.heap.size W g (encP (oneP shop (sq:Int) day cl (opF k s q z s2 q2 z2 nn m nam ⟨tk,⟨ts,tq,tz⟩⟩ ⟨yk,⟨ys,yq,yz⟩⟩ nk nu ns nQ nz) sl)++[]) A' el c':=by
   rw[List.append_nil,←hEP];refine⟨⟨h1,h2,hby,h3,h5,by omega⟩,fun a ha=>?_,h1.lt⟩
   obtain⟨b,o,hA,hb,_⟩:=h2.2 hep;rw[hA] at ha;rw[←Option.some.inj ha];exact hb
  exact (ppatch_one W.heap.size k s q z s2 q2 z2 nn m nam tk ts tq tz yk ys yq yz nk nu ns nQ nz shop (sq:Int) day cl sl [] A' el c' g W hR (Nat.le_refl _) hw).mono fun e w' ⟨h6,_,h7⟩=>⟨h6,h7⟩)
 have HFV:Hid (∀(A8 A10:Option Addr) (c8 c10:Nat) (A7:Option Addr) (c7:Nat) (W:World),c8≤9223372036854775807→c10≤9223372036854775807→RdN W W.heap.size 28 A7 1 [.int .i64 k,.int .i64 s,.int .i64 q,.int .i64 z,.int .i64 s2,.int .i64 q2,.int .i64 z2,.int .i64 nn,.int .i64 m,.string nam,.int .i64 tk,.int .i64 ts,.int .i64 tq,.int .i64 tz,.slice none 0 0,.int .i64 nk,.int .i64 nu,.int .i64 ns,.int .i64 nQ,.int .i64 nz,.int .i64 yk,.int .i64 ys,.int .i64 yq,.int .i64 yz,.slice none 0 0,.slice none 0 0,.slice A8 0 c8,.slice A10 0 c10]→1≤c7→c7≤9223372036854775807→PatV W (oneP shop (sq:Int) day cl (opF k s q z s2 q2 z2 nn m nam ⟨tk,⟨ts,tq,tz⟩⟩ ⟨yk,⟨ys,yq,yz⟩⟩ nk nu ns nQ nz) S) [.int .i64 shop,.int .i64 (sq:Int),.int .i64 day,.slice none 0 0,.int .i64 cl,.slice A7 1 c7,.string S]):=hid (fun A8 A10 c8 c10 A7 c7 W h1 h2 h3 h5 h6=>oneF_V k s q z s2 q2 z2 nn m nam tk ts tq tz yk ys yq yz nk nu ns nQ nz shop (sq:Int) day cl S A8 A10 c8 c10 A7 c7 h1 h2 W h3 h5 h6)
 have HMM:Hid (M=strOf ML∧ML.length=ml):=hid ⟨hM,hml.symm⟩;have hd1:decide ((p:Int)<(sq:Int))=false:=decide_eq_false (by omega)
 have hdp:decide (p<sq)=false:=decide_eq_false (by omega)
 rw[←hML,←hSS];generalize oneP shop (sq:Int) day cl (opF k s q z s2 q2 z2 nn m nam ⟨tk,⟨ts,tq,tz⟩⟩ ⟨yk,⟨ys,yq,yz⟩⟩ nk nu ns nQ nz) sl=PP at HEN HEV
 generalize oneP shop (sq:Int) day cl (opF k s q z s2 q2 z2 nn m nam ⟨tk,⟨ts,tq,tz⟩⟩ ⟨yk,⟨ys,yq,yz⟩⟩ nk nu ns nQ nz) S=PS at HFV⊢
 have zz:=zero_pat;clear hp2 hcs hS hv hQ0 hK hC hU hs hpw hML hM hml hSS hEP hel hiq hw hm;go_enter Tryz.func27,Tryz.ntmps27
 go_upto_region 1 with fail
 obtain⟨w2,hw2⟩:∃x,x=((w.alloc (.cells (keyC seed (h:Int)).toArray 52)).alloc (.cells #[.int .i64 shop,.int .i64 (sq:Int),.int .i64 day,.slice A 0 c,.int .i64 cl,.slice B 1 d,.string sl] 42)).alloc (.cells P0.toArray 42):=⟨_,rfl⟩
 change Code.wp _ _ _ _ (((w.alloc (.cells (keyC seed (h:Int)).toArray 52)).alloc (.cells #[.int .i64 shop,.int .i64 (sq:Int),.int .i64 day,.slice A 0 c,.int .i64 cl,.slice B 1 d,.string sl] 42)).alloc (.cells P0.toArray 42))
 rw[←hw2];have E2:Hid (Ext w w2):=hid (by rw[hw2];exact (((Ext.refl w).alloc _).alloc _).alloc _)
 have BK:Hid (Blk w2 w.heap.size 52 (keyC seed (h:Int))):=hid (by rw[hw2];exact ((Blk.fresh' _ _ _ _ _ rfl rfl).alloc _).alloc _)
 have BR:Hid (Blk w2 (w.heap.size+1) 42 [.int .i64 shop,.int .i64 (sq:Int),.int .i64 day,.slice A 0 c,.int .i64 cl,.slice B 1 d,.string sl]):=hid (by rw[hw2];exact (Blk.fresh' _ _ _ _ _ rfl (by simp)).alloc _)
 have BZ:Hid (Blk w2 (w.heap.size+2) 42 P0):=hid (by rw[hw2];exact Blk.fresh' _ _ _ _ _ rfl (by simp))
 clear hw2
 go_upto_region 7 with (first
  | (refine wpList_load_blk rfl 42 (.tmp 3) rfl (w.heap.size+1) (by kernel_rfl) BR.out Tryz.underlying42 rfl (pat_info.trans rfl) ?_)
  | (go_at_call 62;(with_reducible refine (HVL.out w2 E2.out).mono ?_);rintro e w3 ⟨rfl,hE3⟩;have E3:Hid (Ext w w3):=hid (E2.out.next hE3);have BR3:=hid (BR.out.ext hE3);have BZ3:=hid (BZ.out.ext hE3);have BK3:=hid (BK.out.ext hE3);clear hE3)
  | (refine wpList_load_blk rfl 52 (.tmp 2) rfl w.heap.size (by kernel_rfl) BK3.out Tryz.underlying52 rfl key_info ?_)
  | (go_at_call 22;(with_reducible refine (HPU.out w3 E3.out).mono ?_);rintro e w4 ⟨rfl,hE4⟩;have E4:Hid (Ext w w4):=hid (E3.out.next hE4);have BR4:=hid (BR3.out.ext hE4);have BZ4:=hid (BZ3.out.ext hE4);have BK4:=hid (BK3.out.ext hE4);clear hE4)
  | (refine wpList_store_fresh rfl 56 (.tmp 7) (.tmp 21) rfl _ w4.heap.size rfl (pubC (List.replicate 16 0) 0) Q0 56 (by rfl) (by kernel_rfl) rfl (pub_info.trans (congrArg some HPL.out.symm)) (by rw[HPL.out];rfl) HP1.out ?_;intro w7 hw7 hE7 hz7;have E7:Hid (Ext w w7):=hid (E4.out.next hE7);have BR7:=hid (BR4.out.ext hE7);have BZ7:=hid (BZ4.out.ext hE7);have BK7:=hid (BK4.out.ext hE7);clear hw7 hE7 hz7))
 have c1:w7.cell? ⟨w.heap.size+1,1,none⟩=some (.int .i64 (sq:Int)):=BR7.out.cell 1
 have c0:w7.cell? ⟨w.heap.size,1,none⟩=some (.int .i64 (h:Int)):=BK7.out.cell 1
 go_quiet (fail)
 have BRD:=hid (BR7.out.ext ((Ext.refl w7).drewN nq));have BZD:=hid (BZ7.out.ext ((Ext.refl w7).drewN nq));have BKD:=hid (BK7.out.ext ((Ext.refl w7).drewN nq));have ED:Hid (Ext w (w7.drewN nq)):=hid (E7.out.next ((Ext.refl w7).drewN nq));generalize w7.drewN nq=w8 at *
 clear c1 c0;go_upto_region 9 with fail
 refine wp_region_flowG 16 ?FW9 (fun us=>?_) (by kernel_rfl) (by kernel_rfl) (fun a b=>Ext a b) Ext.refl (fun h1 h2=>h1.next h2) (fun i v W=>match i with
  | 0=>v=.pointer (some ⟨w.heap.size,0,none⟩)
  | 1=>v=.string seed
  | 2=>v=.pointer (some ⟨w.heap.size,1,none⟩)
  | 3=>v=.int .i64 (h:Int)
  | 4=>v=.pointer (some ⟨w.heap.size+1,1,none⟩)
  | 5=>v=.int .i64 (sq:Int)
  | 6=>v=.int .i64 (iq:Int)
  | 7=>v=.agg #[.int .i64 shop,.int .i64 (sq:Int),.int .i64 day,.slice A 0 c,.int .i64 cl,.slice B 1 d,.string sl]
  | 8=>∃A' c',v=.slice A' ml c'∧Rd W W.heap.size A' ml (u8s ML)
  | 9=>v=.string M
  | 10=>v=.tuple #[.string S,.int .i64 0]
  | 11=>v=.tuple #[.string S,.int .i64 0]
  | 12=>v=.string S
  | 13=>v=.int .i64 0
  | 14=>v=.string S
  | 15=>v=.int .i64 0
  | _=>True) ?_ ?_
 case refine_1 =>
  simp only[List.take_succ_cons,List.take_zero,flowAct,Nat.zero_add,Nat.reduceAdd,Act.put,List.setIfInBounds_toArray,List.set_cons_succ,List.set_cons_zero]
  rfl
 ·simp only[List.take_succ_cons,List.take_zero,flowStepsG]
  refine⟨?_,?_,?_,?_,?_,?_,?_,?_,?_,?_,?_,?_,?_,?_,?_,?_,trivial⟩
  ·intro us W K HE hd HK
   dsimp only at HK⊢;clear hd;go_wp2_with fail
   exact K_at (Kz HK) (by kernel_rfl)
  ·intro us W K HE hd HK
   have d0:=hd 0 (by kernel_rfl)
   have cc:W.cell? ⟨w.heap.size,0,none⟩=some (.string seed):=(BKD.out.ext (sg_undrew HE.out)).cell 0
   dsimp only at HK⊢;rw[d0] at HK⊢;clear hd d0;go_wp2_with fail
   exact K_at (Kz HK) (by kernel_rfl)
  ·intro us W K HE hd HK
   dsimp only at HK⊢;clear hd;go_wp2_with fail
   exact K_at (Kz HK) (by kernel_rfl)
  ·intro us W K HE hd HK
   have d2:=hd 2 (by kernel_rfl)
   have cc:W.cell? ⟨w.heap.size,1,none⟩=some (.int .i64 (h:Int)):=(BKD.out.ext (sg_undrew HE.out)).cell 1
   dsimp only at HK⊢;rw[d2] at HK⊢;clear hd d2;go_wp2_with fail
   exact K_at (Kz HK) (by kernel_rfl)
  ·intro us W K HE hd HK
   dsimp only at HK⊢;clear hd;go_wp2_with fail
   exact K_at (Kz HK) (by kernel_rfl)
  ·intro us W K HE hd HK
   have d4:=hd 4 (by kernel_rfl)
   have cc:W.cell? ⟨w.heap.size+1,1,none⟩=some (.int .i64 (sq:Int)):=(BRD.out.ext (sg_undrew HE.out)).cell 1
   dsimp only at HK⊢;rw[d4] at HK⊢;clear hd d4;go_wp2_with fail
   exact K_at (Kz HK) (by kernel_rfl)
  ·intro us W K HE hd HK
   have d5:=hd 5 (by kernel_rfl)
   dsimp only at HK⊢;rw[d5] at HK⊢;clear hd d5;go_wp2_with fail
   exact K_at (Kz HK) (by kernel_rfl)
  ·intro us W K HE hd HK
   have BW:=hid (BRD.out.ext (sg_undrew HE.out));dsimp only at HK⊢;clear hd;go_wp2_with ((refine wpList_load_want (by rfl) 42 (.tmp 3) rfl (w.heap.size+1) (by kernel_rfl) BW.out Tryz.underlying42 rfl (pat_info.trans rfl) ?_))
   exact K_at (Kz HK) (by kernel_rfl)
  ·intro us W K HE hd HK
   have d7:=hd 7 (by kernel_rfl)
   have HMW:=hid (HMS.out W (ED.out.next (sg_undrew HE.out)));dsimp only at HK⊢;rw[d7] at HK⊢;clear hd d7;go_wp2_with ((go_at_call 28;(with_reducible refine HMW.out.mono ?_);rintro e w6 ⟨⟨A6,c6,rfl,hr6⟩,hB6⟩;have HR6:=hid hr6;clear hr6))
   exact K_at (HK.out (.slice A6 ml c6) w6 (fun W2 h2=>⟨A6,c6,rfl,HR6.out.ext' h2⟩) hB6) (by kernel_rfl)
  ·intro us W K HE hd HK
   obtain⟨A6,c6,d8,h8⟩:=hd 8 (by kernel_rfl)
   have hcv:=run_toStr (P:=Tryz.prog) Tryz.underlying23 Tryz.underlying5 Tryz.underlying9 h8 c6 (sg_nil _ _ h8);rw[←HMM.out.1] at hcv;clear h8;dsimp only at HK⊢;rw[d8] at HK⊢;clear hd d8;go_wp2_with fail
   exact K_at (Kz HK) (by kernel_rfl)
  ·intro us W K HE hd HK
   have d1:=hd 1 (by kernel_rfl)
   have d3:=hd 3 (by kernel_rfl)
   have d6:=hd 6 (by kernel_rfl)
   have d9:=hd 9 (by kernel_rfl)
   have HSW:=hid (HSG.out W (ED.out.next (sg_undrew HE.out)));dsimp only at HK⊢;rw[d1,d3,d6,d9] at HK⊢;clear hd d1 d3 d6 d9;go_wp2_with ((go_at_call 39;(with_reducible refine HSW.out.mono ?_);rintro e w6 ⟨rfl,hB6⟩))
   exact K_at (HK.out (.tuple #[.string S,.int .i64 0]) w6 (fun _ _=>rfl) hB6) (by kernel_rfl)
  ·intro us W K HE hd HK
   have d10:=hd 10 (by kernel_rfl)
   dsimp only at HK⊢;rw[d10] at HK⊢;clear hd d10;go_wp2_with fail
   exact K_at (Kz HK) (by kernel_rfl)
  ·intro us W K HE hd HK
   have d11:=hd 11 (by kernel_rfl)
   dsimp only at HK⊢;rw[d11] at HK⊢;clear hd d11;go_wp2_with fail
   exact K_at (Kz HK) (by kernel_rfl)
  ·intro us W K HE hd HK
   have d11:=hd 11 (by kernel_rfl)
   dsimp only at HK⊢;rw[d11] at HK⊢;clear hd d11;go_wp2_with fail
   exact K_at (Kz HK) (by kernel_rfl)
  ·intro us W K HE hd HK
   have d12:=hd 12 (by kernel_rfl)
   dsimp only at HK⊢;rw[d12] at HK⊢;clear hd d12;go_wp2_with fail
   exact K_at (Kz HK) (by kernel_rfl)
  ·intro us W K HE hd HK
   have d13:=hd 13 (by kernel_rfl)
   dsimp only at HK⊢;rw[d13] at HK⊢;clear hd d13;go_wp2_with fail
   exact K_at (Kz HK) (by kernel_rfl)
 ·intro us W hE hd
  try dsimp only
  have d16:=hd 14 (by decide)
  have d17:=hd 15 (by decide)
  simp only[List.drop_succ_cons,List.drop_zero]
  rw[d16,d17];have EW:=hid (sg_undrew hE);clear hd hE d16 d17;have BRW:=hid (BRD.out.ext EW.out);have BZW:=hid (BZD.out.ext EW.out);have EWW:=hid (ED.out.next EW.out)
  go_upto_region 13 with (first
   | (refine wpList_load_blk rfl 42 (.tmp 3) rfl (w.heap.size+1) (by kernel_rfl) BRW.out Tryz.underlying42 rfl (pat_info.trans rfl) ?_)
   | (go_at_call 63;(with_reducible refine (HEN.out W _ (HEV.out W EWW.out)).mono ?_);rintro e w10 ⟨⟨A6,c6,rfl,hr6,hc6,hd6⟩,hE6⟩;have HR6:=hid hr6;have HC6:=hid (And.intro hc6 hd6);have E10:=hid (EWW.out.next hE6);have BR10:=hid (BRW.out.ext hE6);have BZ10:=hid (BZW.out.ext hE6);clear hr6 hE6 hc6 hd6)
   | (refine wpList_build_eq (by rfl) 89 _ rfl _ (by kernel_rfl) _ (build_rdr A6 el c6) ?_))
  obtain⟨w11,hw11⟩:∃x,x=w10.alloc (.cells #[.slice A6 el c6,.bool false] 89):=⟨_,rfl⟩
  change Code.wp _ _ _ _ (w10.alloc (.cells #[.slice A6 el c6,.bool false] 89))
  rw[←hw11];have E1011:Hid (Ext w10 w11):=hid (by rw[hw11];exact (Ext.refl w10).alloc _)
  obtain⟨gr,hgr⟩:∃g,g=w10.heap.size:=⟨_,rfl⟩
  have BG:Hid (Blk w11 gr 89 [.slice A6 el c6,.bool false]):=hid (by rw[hw11,hgr];exact Blk.fresh' _ _ _ _ _ rfl rfl)
  rw[←hgr];have HGR:Hid (w.heap.size+2<gr):=hid (by have:=BZ10.out.lt;omega)
  have E11:=hid (E10.out.next E1011.out);have BR11:=hid (BR10.out.ext E1011.out);have BZ11:=hid (BZ10.out.ext E1011.out);have HRW:=hid (HRD.out w11 A6 c6 gr BG.out (HR6.out.ext' E1011.out) HC6.out.1 HC6.out.2);clear hw11 hgr E1011 BR10 BZ10 HR6 HC6 E10 BG
  go_upto_region 14 with (first
   | (go_at_call 36;(with_reducible refine HRW.out.mono ?_);rintro e w12 ⟨⟨A8,A10,c8,c10,A7,c7,rfl,h8,h10,hrow,h1,h2⟩,hk⟩;have HB:=hid (And.intro h8 (And.intro h10 (And.intro h1 h2)));have ROW:=hid hrow;have BR12:=hid (hk.blk BR11.out (by have:=HGR.out;omega));have BZ12:=hid (hk.blk BZ11.out (by have:=HGR.out;omega));have E12:Hid (Ext w w12):=hid (ext_kept E11.out hk (fun b hb=>by have:=HGR.out;omega));clear h8 h10 hrow h1 h2 hk)
   | (refine wpList_store_blk rfl 42 (.tmp 3) (.tmp 57) rfl (w.heap.size+1) [.int .i64 shop,.int .i64 (sq:Int),.int .i64 day,.slice none 0 0,.int .i64 cl,.slice A7 1 c7,.string sl] (by kernel_rfl) (by kernel_rfl) BR12.out (pat_info.trans rfl) rfl (by intro v hv;simp only[List.mem_cons,List.not_mem_nil,or_false] at hv;rcases hv with rfl|rfl|rfl|rfl|rfl|rfl|rfl<;>rfl) ?_;intro w13 hw13 hb13;have BR13:Hid (Blk w13 (w.heap.size+1) 42 [.int .i64 shop,.int .i64 (sq:Int),.int .i64 day,.slice none 0 0,.int .i64 cl,.slice A7 1 c7,.string sl]):=hid hb13;have K13:Hid (Kept (fun b=>b=w.heap.size+1) w12 w13):=hid (by rw[hw13.out];exact Kept.setRow (F:=fun b=>b=w.heap.size+1) w12 rfl _);clear hw13 hb13))
  have cd:=BR13.out.cell 6;have fz:=BR13.out.frozen 6;go_upto_region 15 with fail
  obtain⟨w14,hw14⟩:∃x,x=w13.setCell ⟨w.heap.size+1,6,none⟩ (.string S):=⟨_,rfl⟩
  change Code.wp _ _ _ _ (w13.setCell ⟨w.heap.size+1,6,none⟩ (.string S))
  rw[←hw14];have K14:Hid (Kept (fun b=>b=w.heap.size+1) w13 w14):=hid (by rw[hw14];exact Kept.setCell (F:=fun b=>b=w.heap.size+1) (p:=⟨w.heap.size+1,6,none⟩) w13 rfl _)
  have BR14:Hid (Blk w14 (w.heap.size+1) 42 [.int .i64 shop,.int .i64 (sq:Int),.int .i64 day,.slice none 0 0,.int .i64 cl,.slice A7 1 c7,.string S]):=hid (by rw[hw14];exact BR13.out.set 6 _)
  have K124:Hid (Kept (fun b=>b=w.heap.size+1) w12 w14):=hid (K13.out.trans K14.out)
  have BZ14:Hid (Blk w14 (w.heap.size+2) 42 P0):=hid (K124.out.blk BZ12.out (by omega))
  have E14:Hid (Ext w w14):=hid (ext_kept E12.out K124.out (fun b hb=>by omega))
  have ROW14:Hid (RdN w14 w14.heap.size 28 A7 1 [.int .i64 k,.int .i64 s,.int .i64 q,.int .i64 z,.int .i64 s2,.int .i64 q2,.int .i64 z2,.int .i64 nn,.int .i64 m,.string nam,.int .i64 tk,.int .i64 ts,.int .i64 tq,.int .i64 tz,.slice none 0 0,.int .i64 nk,.int .i64 nu,.int .i64 ns,.int .i64 nQ,.int .i64 nz,.int .i64 yk,.int .i64 ys,.int .i64 yq,.int .i64 yz,.slice none 0 0,.slice none 0 0,.slice A8 0 c8,.slice A10 0 c10]):=hid (ROW.out.wide K124.out BR12.out (by show 7<28;decide))
  clear hw14 cd fz K13 K14 BR13 BR12 K124 ROW
  go_wp2_with (first
   | (refine wpList_load_blk rfl 42 (.tmp 3) rfl (w.heap.size+1) (by kernel_rfl) BR14.out Tryz.underlying42 rfl (pat_info.trans rfl) ?_)
   | (refine wpList_store_blk rfl 42 (.tmp 4) (.tmp 60) (by rfl) (w.heap.size+2) [.int .i64 shop,.int .i64 (sq:Int),.int .i64 day,.slice none 0 0,.int .i64 cl,.slice A7 1 c7,.string S] (by kernel_rfl) (by kernel_rfl) BZ14.out (pat_info.trans rfl) rfl (by intro v hv;simp only[List.mem_cons,List.not_mem_nil,or_false] at hv;rcases hv with rfl|rfl|rfl|rfl|rfl|rfl|rfl<;>rfl) ?_;intro w15 hw15 hb15;have K15:Hid (Kept (fun b=>b=w.heap.size+2) w14 w15):=hid (by rw[hw15.out];exact Kept.setRow (F:=fun b=>b=w.heap.size+2) w14 rfl _);clear hw15))
  exact bodyPost_ret (results_blk_tmp Tryz.results27 _ _ (w.heap.size+2) 42 [.int .i64 shop,.int .i64 (sq:Int),.int .i64 day,.slice none 0 0,.int .i64 cl,.slice A7 1 c7,.string S] _ rfl hb15 Tryz.underlying42 rfl (pat_info.trans rfl)) rfl ⟨⟨_,rfl,HFV.out A8 A10 c8 c10 A7 c7 w15 HB.out.1 HB.out.2.1 (ROW14.out.wide K15.out BZ14.out (by show 7<28;decide)) HB.out.2.2.1 HB.out.2.2.2⟩,ext_kept E14.out K15.out (fun b hb=>by omega)⟩
end
end Go.Proofs.YtjeecfjeooehhaaGreatDoor