/- Standing's closures, and slices.Clone at IDs. Conditions: the slices can be read. -/
import Derived.Test.YtjeecfjeooehhaaGreatDoorM13
import Derived.Test.YtjeecfjeooehhaaGreatDoorM3
import Derived.Laws.CopyRow
import Derived.Test.YtjeecfjeooehhaaGreatDoorM4
set_option linter.unusedSimpArgs false
set_option linter.unusedVariables false
set_option maxHeartbeats 16000000
set_option maxRecDepth 100000
namespace Go.Proofs.YtjeecfjeooehhaaGreatDoor
open Go.RowKit
open Lib (hid)
section
attribute [local go_sem ↓] wp_at_zero wp_at_succ
def wdB (day:Int)(y r:Rev):Bool:=y.wd&&(decide (y.shop=r.shop)&&(decide (r.seq<y.seq)&&(decide (y.day≤day)&&meetB r.ops y.ops)))
theorem range_any (a:List Rid)(n:Nat)(h:a.length=n)(f:Rid→Bool):(List.range n).any (fun j=>f (a.getD j rid0))=a.any f:=by
 rw[Bool.eq_iff_iff,List.any_eq_true,List.any_eq_true]
 constructor
 ·rintro ⟨j,hj,hf⟩
  have hj':=List.mem_range.1 hj;exact⟨_,List.mem_of_getElem? (getD_of (by omega)),hf⟩
 ·rintro ⟨x,hx,hf⟩
  obtain⟨j,hj,rfl⟩:=List.getElem_of_mem hx;refine⟨j,List.mem_range.2 (by omega),?_⟩
  rw[List.getD_eq_getElem?_getD,List.getElem?_eq_getElem hj]
  exact hf
theorem clos2_any (y r:RX)(day:Int)(gr gd:Nat)(w:World)(hy:RXV w y)(hr:RXV w r)(hB:Blk w gr 28 (rxC r))(hD:Blk w gd 3 [.int .i64 day]) :
  Calls Tryz.prog 83 #[.agg (rxC y).toArray,.pointer (some ⟨gr,0,none⟩),.pointer (some ⟨gd,0,none⟩)] w fun e w'=>e=.returned (.bool (wdB day y.r r.r))∧Ext w w':=by
 have HY:=hid hy;have HRX:=hid hr;have HB:=hid hB;have HD:=hid hD;clear hy hr hB hD;obtain⟨wd,hwd⟩:∃x,x=y.r.wd:=⟨_,rfl⟩
 obtain⟨s1,hs1⟩:∃x,x=y.r.shop:=⟨_,rfl⟩
 obtain⟨s2,hs2⟩:∃x,x=r.r.shop:=⟨_,rfl⟩
 obtain⟨q1,hq1⟩:∃x,x=y.r.seq:=⟨_,rfl⟩
 obtain⟨q2,hq2⟩:∃x,x=r.r.seq:=⟨_,rfl⟩
 obtain⟨d1,hd1⟩:∃x,x=y.r.day:=⟨_,rfl⟩
 obtain⟨mb,hmb⟩:∃x,x=meetB r.r.ops y.r.ops:=⟨_,rfl⟩
 obtain⟨nr,hnr⟩:∃x,x=r.n:=⟨_,rfl⟩
 obtain⟨cr,hcr⟩:∃x,x=r.c:=⟨_,rfl⟩
 obtain⟨Ar,hAr⟩:∃x,x=r.A:=⟨_,rfl⟩
 have HV:Hid (wdB day y.r r.r=(wd&&(decide (s1=s2)&&(decide (q2<q1)&&(decide (d1≤day)&&mb))))):=hid (by unfold wdB;rw[hwd,hs1,hs2,hq1,hq2,hd1,hmb])
 have HCF:Hid (∀W,Ext (w.alloc (.cells (rxC y).toArray 28)) W→Calls Tryz.prog 84 #[.slice Ar nr cr,.func (.func 85) #[] #[.pointer (some ⟨w.heap.size,0,none⟩)]] W fun e w'=>e=.returned (.bool mb)∧Ext W w'):=hid (fun W hW=>by
  have hEW:Ext w W:=((Ext.refl w).alloc _).next hW;have hrw:=HRX.out.ext hEW;have hBy:Blk W w.heap.size 28 (rxC y):=(Blk.fresh' w 28 (rxC y) _ _ rfl rfl).ext hW;have hrl:=idsC_n hrw.row;rw[hAr,hnr,hcr,hmb];unfold meetB;rw[←range_any r.r.ops r.n hrl];rcases Nat.eq_zero_or_pos r.n with h0|h0
  ·exact containsF_id (n:=r.n) r.A r.c _ _ W 0 0 (fun h=>by omega) (fun j=>idC (r.r.ops.getD j rid0)) (fun j hj=>by omega) (fun j hj=>by omega) hrw.few (fun j hj=>by omega)
  ·obtain⟨b,p,hA,hb,hrg⟩:=rid_at hrw.row h0
   exact containsF_id (n:=r.n) r.A r.c _ _ W b p (fun _=>hA) (fun j=>idC (r.r.ops.getD j rid0)) (fun j hj W' hW'=>hrg W' (fun a ha=>hW'.cell ha) j _ (getD_of (by omega))) (fun j hj=>rfl) hrw.few (fun j hj W' hW'=>clos3_any y (r.r.ops.getD j rid0) w.heap.size W' (hBy.ext hW') (HY.out.ext (hEW.next hW'))))
 have HYL:Hid ((rxC y).length=22):=hid HY.out.len;go_enter Tryz.func83,Tryz.ntmps83
 go_upto_region 1 with fail
 obtain⟨w1,hw1⟩:∃x,x=w.alloc (.cells (rxC y).toArray 28):=⟨_,rfl⟩
 change Code.wp _ _ _ _ (w.alloc (.cells (rxC y).toArray 28))
 rw[←hw1] at HCF⊢;have E1:Hid (Ext w w1):=hid (by rw[hw1];exact (Ext.refl w).alloc _)
 have EX:Hid (Ext w1 w1):=hid (Ext.refl _);have BY:Blk w1 w.heap.size 28 (rxC y):=by rw[hw1];exact Blk.fresh' _ _ _ _ _ rfl rfl
 have BR:Blk w1 gr 28 (rxC r):=HB.out.ext E1.out;obtain⟨cy0,cy1,cy2,cy3,cy4⟩:=rev_cell BY;obtain⟨cr0,cr1,cr2,cr3,cr4⟩:=rev_cell BR;rw[←hs1] at cy0;rw[←hq1] at cy1;rw[←hd1] at cy2;rw[←hwd] at cy3;rw[←hs2] at cr0;rw[←hq2] at cr1;rw[←hAr,←hnr,←hcr] at cr4;have cd:w1.cell? ⟨gd,0,none⟩=some (.int .i64 day):=(HD.out.ext E1.out).cell 0
 clear hw1 cy4 cr2 cr3 hwd hs1 hs2 hq1 hq2 hd1 hmb hnr hcr hAr BY BR
 cases wd
 ·go_wp2_with fail
  go_ret
  exact⟨by rw[HV.out];rfl,E1.out⟩
 by_cases h1:s1=s2
 ·have h1':(s1==s2)=true:=beq_iff_eq.2 h1
  have h1'':=hid h1;clear h1;by_cases h2:q2<q1
  ·have h2':decide (q2<q1)=true:=decide_eq_true h2
   by_cases h3:d1≤day
   ·have h3':decide (d1≤day)=true:=decide_eq_true h3
    go_wp2_with (go_at_call 84;(with_reducible refine (HCF.out _ EX.out).mono ?_);rintro e w2 ⟨rfl,hE2⟩;have EX:=hid (EX.out.next hE2);clear hE2)
    go_ret
    exact⟨by rw[HV.out,decide_eq_true h1''.out,h2',h3'];cases mb<;>rfl,E1.out.next EX.out⟩
   ·have h3':decide (d1≤day)=false:=decide_eq_false h3
    go_wp2_with (go_at_call 84;(with_reducible refine (HCF.out _ EX.out).mono ?_);rintro e w2 ⟨rfl,hE2⟩;have EX:=hid (EX.out.next hE2);clear hE2)
    go_ret
    exact⟨by rw[HV.out,h3'];cases (decide (s1=s2))<;>cases (decide (q2<q1))<;>rfl,E1.out⟩
  ·have h2':decide (q2<q1)=false:=decide_eq_false h2
   go_wp2_with (go_at_call 84;(with_reducible refine (HCF.out _ EX.out).mono ?_);rintro e w2 ⟨rfl,hE2⟩;have EX:=hid (EX.out.next hE2);clear hE2)
   go_ret
   exact⟨by rw[HV.out,h2'];cases (decide (s1=s2))<;>rfl,E1.out⟩
 ·have h1':(s1==s2)=false:=by simpa using h1
  have h1'':=hid (decide_eq_false h1);go_wp2_with (go_at_call 84;(with_reducible refine (HCF.out _ EX.out).mono ?_);rintro e w2 ⟨rfl,hE2⟩;have EX:=hid (EX.out.next hE2);clear hE2)
  go_ret
  exact⟨by rw[HV.out,h1''.out];rfl,E1.out⟩
def goneB (day:Int)(L:List RX)(r:Rev):Bool:=L.any fun y=>wdB day y.r r
theorem range_anyX (a:List RX)(n:Nat)(h:a.length=n)(f:RX→Bool)(z:RX):(List.range n).any (fun j=>f (a.getD j z))=a.any f:=by
 rw[Bool.eq_iff_iff,List.any_eq_true,List.any_eq_true]
 constructor
 ·rintro ⟨j,hj,hf⟩
  have hj':=List.mem_range.1 hj;refine⟨a.getD j z,?_,hf⟩
  rw[List.getD_eq_getElem?_getD,List.getElem?_eq_getElem (by omega)]
  exact List.getElem_mem _
 ·rintro ⟨x,hx,hf⟩
  obtain⟨j,hj,rfl⟩:=List.getElem_of_mem hx;refine⟨j,List.mem_range.2 (by omega),?_⟩
  rw[List.getD_eq_getElem?_getD,List.getElem?_eq_getElem hj]
  exact hf
theorem clos1_any (L:List RX)(r:RX)(day:Int)(A:Option Addr)(n c:Nat)(ga gd:Nat)(w:World)(hL:∀x∈L,RXV w x)(hr:RXV w r)(hrow:RdN w w.heap.size 22 A n (rxsC L))(hn:n≤1000000000000)(hG:Blk w ga 92 [.slice A n c])(hD:Blk w gd 3 [.int .i64 day]) :
  Calls Tryz.prog 81 #[.agg (rxC r).toArray,.pointer (some ⟨ga,0,none⟩),.pointer (some ⟨gd,0,none⟩)] w fun e w'=>e=.returned (.bool (goneB day L r.r))∧Ext w w':=by
 have HL:=hid hL;have HRX:=hid hr;have HRW:=hid hrow;have HD:=hid hD;have HG:=hid hG;clear hL hr hrow hG hD;obtain⟨mb,hmb⟩:∃x,x=goneB day L r.r:=⟨_,rfl⟩
 have HCF:Hid (∀W,Ext (w.alloc (.cells (rxC r).toArray 28)) W→Calls Tryz.prog 82 #[.slice A n c,.func (.func 83) #[] #[.pointer (some ⟨w.heap.size,0,none⟩),.pointer (some ⟨gd,0,none⟩)]] W fun e w'=>e=.returned (.bool mb)∧Ext W w'):=hid (fun W hW=>by
  have hEW:Ext w W:=((Ext.refl w).alloc _).next hW;have hl22:∀x∈L,(rxC x).length=22:=fun x hx=>(HL.out x hx).len
  have hrw:RdN W W.heap.size 22 A n (rxsC L):=(HRW.out.below hEW (Nat.le_refl _)).more hEW.size;have hBr:Blk W w.heap.size 28 (rxC r):=(Blk.fresh' w 28 (rxC r) _ _ rfl rfl).ext hW;have hDw:Blk W gd 3 [.int .i64 day]:=HD.out.ext hEW;have hrl:=rx_n hrw hl22;rw[hmb];unfold goneB;rw[←range_anyX L n hrl _ r]
  have hget:∀j,j<n→L[j]?=some (L.getD j r):=fun j hj=>by
   rw[List.getD_eq_getElem?_getD,List.getElem?_eq_getElem (by omega)];rfl
  rcases Nat.eq_zero_or_pos n with h0|h0
  ·exact containsF_rv (n:=n) A c _ _ _ W 0 0 (fun h=>by omega) (fun j=>rxC (L.getD j r)) (fun j hj=>by omega) (fun j hj=>by omega) hn (fun j hj=>by omega)
  ·obtain⟨b,p,hA,hb,hrg⟩:=rx_at hrw hl22 h0
   exact containsF_rv (n:=n) A c _ _ _ W b p (fun _=>hA) (fun j=>rxC (L.getD j r)) (fun j hj W' hW'=>hrg W' (fun a ha=>hW'.cell ha) j _ (hget j hj)) (fun j hj=>hl22 _ (List.mem_of_getElem? (hget j hj))) hn (fun j hj W' hW'=>clos2_any (L.getD j r) r day w.heap.size gd W' ((HL.out _ (List.mem_of_getElem? (hget j hj))).ext (hEW.next hW')) (HRX.out.ext (hEW.next hW')) (hBr.ext hW') (hDw.ext hW')))
 rw[←hmb];clear hmb;go_enter Tryz.func81,Tryz.ntmps81
 go_upto_region 1 with fail
 obtain⟨w1,hw1⟩:∃x,x=w.alloc (.cells (rxC r).toArray 28):=⟨_,rfl⟩
 change Code.wp _ _ _ _ (w.alloc (.cells (rxC r).toArray 28))
 rw[←hw1] at HCF⊢;have E1:Hid (Ext w w1):=hid (by rw[hw1];exact (Ext.refl w).alloc _)
 have EX:Hid (Ext w1 w1):=hid (Ext.refl _);have ca:w1.cell? ⟨ga,0,none⟩=some (.slice A n c):=(HG.out.ext E1.out).cell 0
 clear hw1;go_wp2_with (go_at_call 82;(with_reducible refine (HCF.out _ EX.out).mono ?_);rintro e w2 ⟨rfl,hE2⟩;have EX:=hid (EX.out.next hE2);clear hE2)
 go_ret
 exact⟨rfl,E1.out.next EX.out⟩
end
section
attribute [local go_sem ↓] wp_at_zero wp_at_succ
theorem clone_id (L:List Rid)(A:Option Addr)(n c:Nat)(w:World)(hl:RdN w w.heap.size 3 A n (idsC L))(hn:n≤1000000000000) :
  Calls Tryz.prog 41 #[.slice A n c] w fun e w'=>(∃A' c',e=.returned (.slice A' n c')∧w'.ownsRow w.heap.size 68 3 (.slice A' n c') n (idsC L))∧Ext w w':=by
 obtain⟨i0,hi,hz0,hz1,hz2⟩:=info_parts id_info;have HL:=hid hl;clear hl;have hq:∀a n c w,(binOp .eql 24 (.slice a n c) (.slice none 0 0)).run Tryz.prog w=.ok (.bool a.isNone) w:=fun a n c w=>Lib.run_eql_slice_nil w _ _ a n c 0 0 Tryz.underlying24
 rcases A with _|a
 ·have hn0:n=0:=by
   rcases Nat.eq_zero_or_pos n with h|h
   ·exact h
   ·obtain⟨b,o,h2,_⟩:=HL.out.2 h
    cases h2
  subst hn0;have hl0:idsC L=[]:=List.eq_nil_of_length_eq_zero (by have:=HL.out.1;omega)
  rw[hl0];go_enter Tryz.func41,Tryz.ntmps41
  go_wp2_with fail
  go_ret
  exact⟨⟨none,0,rfl,World.ownsRow_nil _ _ _ _⟩,Ext.refl _⟩
 ·have HOL:Hid ((w.alloc (.cells #[] 68)).ownsRow w.heap.size 68 3 (.slice (some ⟨w.heap.size,0,none⟩) 0 0) 0 []):=hid (by
   have h:=World.ownsRow_lit (base:=w.heap.size) (size:=3) (e:=68) w #[] 0 (Nat.le_refl _) (by decide) (by simp)
   simpa using h)
  have HR:Hid (RdN (w.alloc (.cells #[] 68)) (w.alloc (.cells #[] 68)).heap.size 3 (some a) n (idsC L)):=hid ((HL.out.below ((Ext.refl w).alloc _) (Nat.le_refl _)).more ((Ext.refl w).alloc _).size);go_enter Tryz.func41,Tryz.ntmps41
  go_wp2_with (at_builtin;refine wpList_app rfl (.tmp 5) (.tmp 6) 24 rfl w.heap.size 68 i0 (.agg #[.int .i64 0,.int .i64 0,.int .i64 0]) 3 24 Tryz.underlying24 hi hz0 hz1 hz2 rfl (by omega) (some ⟨w.heap.size,0,none⟩) 0 0 [] rfl HOL.out (w.alloc (.cells #[] 68)).heap.size (some a) n c (idsC L) rfl HR.out (idsC_one _) (by simp only[maxLen];omega) (by omega) (by simp) ?_;rw[Nat.zero_add,List.nil_append];intro A4 c4 w4 ho4 hg4;have HO4:=hid ho4;have E4:Hid (Ext w w4):=hid (below_app ((Ext.refl w).alloc _) hg4 HOL.out (Nat.le_refl _) (by simp));clear ho4 hg4)
  go_ret
  exact⟨⟨A4,c4,rfl,HO4.out⟩,E4.out⟩
def kcmp (a b:Rev):Int:=orI [cmpI a.shop b.shop,cmpI a.seq b.seq]
def ltK (a b:Rev):Prop:=a.shop<b.shop∨a.shop=b.shop∧a.seq<b.seq
theorem kcmp_lt (a b:Rev):(kcmp a b<0)↔ltK a b:=by
 have e2:∀x y:Int,orI [x,y]=if x≠0 then x else y:=fun x y=>by
  have h:=orI3 x y 0
  have h2:orI [x,y,0]=orI [x,y]:=by
   unfold orI;by_cases hx:x=0<;>by_cases hy:y=0<;>simp [hx,hy]
  rw[←h2,h];split
  ·rfl
  ·split
   ·rfl
   ·rename_i h;simp only[ne_eq,Decidable.not_not] at h;exact h.symm
 unfold kcmp ltK;rw[e2];unfold cmpI;split<;>(repeat' split)<;>omega
theorem cmpR_any (a b:RX)(w:World)(ha:(rxC a).length=22)(hb:(rxC b).length=22) :
  Calls Tryz.prog 88 #[.agg (rxC a).toArray,.agg (rxC b).toArray] w fun e w'=>e=.returned (.int .i64 (kcmp a.r b.r))∧Ext w w':=by
 obtain⟨V,hV⟩:∃v,v=kcmp a.r b.r:=⟨_,rfl⟩
 obtain⟨s,hs⟩:∃x,x=a.r.shop:=⟨_,rfl⟩
 obtain⟨q,hq⟩:∃x,x=a.r.seq:=⟨_,rfl⟩
 obtain⟨s',hs'⟩:∃x,x=b.r.shop:=⟨_,rfl⟩
 obtain⟨q',hq'⟩:∃x,x=b.r.seq:=⟨_,rfl⟩
 obtain⟨c1,hc1⟩:∃c,c=cmpI s s':=⟨_,rfl⟩
 obtain⟨c2,hc2⟩:∃c,c=cmpI q q':=⟨_,rfl⟩
 have H1:Hid (∀W,Calls Tryz.prog 90 #[.int .i64 s,.int .i64 s'] W fun e w'=>e=.returned (.int .i64 c1)∧W=w'):=hid (fun W=>by rw[hc1];exact compare_any s s' W)
 have H2:Hid (∀W,Calls Tryz.prog 90 #[.int .i64 q,.int .i64 q'] W fun e w'=>e=.returned (.int .i64 c2)∧W=w'):=hid (fun W=>by rw[hc2];exact compare_any q q' W)
 have HV:Hid (V=orI [c1,c2]):=hid (by rw[hV,hc1,hc2,hs,hs',hq,hq'];rfl)
 rw[←hV];go_enter Tryz.func88,Tryz.ntmps88
 go_upto_region 1 with fail
 obtain⟨w2,hw2⟩:∃x,x=(w.alloc (.cells (rxC a).toArray 28)).alloc (.cells (rxC b).toArray 28):=⟨_,rfl⟩
 change Code.wp _ _ _ _ ((w.alloc (.cells (rxC a).toArray 28)).alloc (.cells (rxC b).toArray 28))
 rw[←hw2];have E2:Hid (Ext w w2):=hid (by rw[hw2];exact ((Ext.refl w).alloc _).alloc _)
 have BA:Hid (Blk w2 w.heap.size 28 (rxC a)):=hid (by rw[hw2];exact (Blk.fresh' _ _ _ _ _ rfl rfl).alloc _)
 have BB:Hid (Blk w2 (w.heap.size+1) 28 (rxC b)):=hid (by rw[hw2];exact Blk.fresh' _ _ _ _ _ rfl (by simp))
 have HA0:Hid ((rxC a)[0]?=some (.int .i64 s)∧(rxC a)[1]?=some (.int .i64 q)):=hid (by rw[hs,hq];exact⟨rfl,rfl⟩)
 have HB0:Hid ((rxC b)[0]?=some (.int .i64 s')∧(rxC b)[1]?=some (.int .i64 q')):=hid (by rw[hs',hq'];exact⟨rfl,rfl⟩)
 clear hw2 hV hc1 hc2 hs hq hs' hq' ha hb
 refine wp_region_flowG 12 ?FW1 (fun us=>?_) (by kernel_rfl) (by kernel_rfl) (fun a b=>Ext a b) Ext.refl (fun h1 h2=>h1.next h2) (fun i v W=>match i with
  | 0=>v=.pointer (some ⟨w.heap.size,0,none⟩)
  | 1=>v=.int .i64 s
  | 2=>v=.pointer (some ⟨w.heap.size+1,0,none⟩)
  | 3=>v=.int .i64 s'
  | 4=>v=.int .i64 c1
  | 5=>v=.pointer (some ⟨w.heap.size,1,none⟩)
  | 6=>v=.int .i64 q
  | 7=>v=.pointer (some ⟨w.heap.size+1,1,none⟩)
  | 8=>v=.int .i64 q'
  | 9=>v=.int .i64 c2
  | 10=>∃g,v=.slice (some ⟨g,0,none⟩) 2 2∧Rd W W.heap.size (some ⟨g,0,none⟩) 2 ([c1,c2].map (Value.int .i64))
  | 11=>v=.int .i64 V
  | _=>True) ?_ ?_
 case refine_1 =>
  simp only[List.take_succ_cons,List.take_zero,flowAct,Nat.zero_add,Nat.reduceAdd,Act.put,List.setIfInBounds_toArray,List.set_cons_succ,List.set_cons_zero]
  rfl
 ·simp only[List.take_succ_cons,List.take_zero,flowStepsG]
  refine⟨?_,?_,?_,?_,?_,?_,?_,?_,?_,?_,?_,?_,trivial⟩
  ·intro us W K HE hd HK
   dsimp only at HK⊢;clear hd;go_wp2_with fail
   exact K_at (Kz HK) (by kernel_rfl)
  ·intro us W K HE hd HK
   have d0:=hd 0 (by kernel_rfl)
   have xk:W.cell? ⟨w.heap.size,0,none⟩=some (.int .i64 s):=((BA.out.ext (sg_undrew HE.out)).cell 0).trans HA0.out.1
   dsimp only at HK⊢;rw[d0] at HK⊢;clear hd d0;go_wp2_with fail
   exact K_at (Kz HK) (by kernel_rfl)
  ·intro us W K HE hd HK
   dsimp only at HK⊢;clear hd;go_wp2_with fail
   exact K_at (Kz HK) (by kernel_rfl)
  ·intro us W K HE hd HK
   have d2:=hd 2 (by kernel_rfl)
   have xk:W.cell? ⟨w.heap.size+1,0,none⟩=some (.int .i64 s'):=((BB.out.ext (sg_undrew HE.out)).cell 0).trans HB0.out.1
   dsimp only at HK⊢;rw[d2] at HK⊢;clear hd d2;go_wp2_with fail
   exact K_at (Kz HK) (by kernel_rfl)
  ·intro us W K HE hd HK
   have d1:=hd 1 (by kernel_rfl)
   have d3:=hd 3 (by kernel_rfl)
   dsimp only at HK⊢;rw[d1,d3] at HK⊢;clear hd d1 d3;go_wp2_with ((go_at_call 90;(with_reducible refine (H1.out W).mono ?_);rintro e w6 ⟨rfl,rfl⟩))
   exact K_at (Kz HK) (by kernel_rfl)
  ·intro us W K HE hd HK
   dsimp only at HK⊢;clear hd;go_wp2_with fail
   exact K_at (Kz HK) (by kernel_rfl)
  ·intro us W K HE hd HK
   have d5:=hd 5 (by kernel_rfl)
   have xk:W.cell? ⟨w.heap.size,1,none⟩=some (.int .i64 q):=((BA.out.ext (sg_undrew HE.out)).cell 1).trans HA0.out.2
   dsimp only at HK⊢;rw[d5] at HK⊢;clear hd d5;go_wp2_with fail
   exact K_at (Kz HK) (by kernel_rfl)
  ·intro us W K HE hd HK
   dsimp only at HK⊢;clear hd;go_wp2_with fail
   exact K_at (Kz HK) (by kernel_rfl)
  ·intro us W K HE hd HK
   have d7:=hd 7 (by kernel_rfl)
   have xk:W.cell? ⟨w.heap.size+1,1,none⟩=some (.int .i64 q'):=((BB.out.ext (sg_undrew HE.out)).cell 1).trans HB0.out.2
   dsimp only at HK⊢;rw[d7] at HK⊢;clear hd d7;go_wp2_with fail
   exact K_at (Kz HK) (by kernel_rfl)
  ·intro us W K HE hd HK
   have d6:=hd 6 (by kernel_rfl)
   have d8:=hd 8 (by kernel_rfl)
   dsimp only at HK⊢;rw[d6,d8] at HK⊢;clear hd d6 d8;go_wp2_with ((go_at_call 90;(with_reducible refine (H2.out W).mono ?_);rintro e w6 ⟨rfl,rfl⟩))
   exact K_at (Kz HK) (by kernel_rfl)
  ·intro us W K HE hd HK
   have d4:=hd 4 (by kernel_rfl)
   have d9:=hd 9 (by kernel_rfl)
   dsimp only at HK⊢;rw[d4,d9] at HK⊢;clear hd d4 d9;go_wp2_with fail
   exact K_at (HK.out (.slice (some ⟨W.heap.size,0,none⟩) 2 2) _ (fun W2 hW2=>⟨W.heap.size,rfl,((Blk.fresh W 3 [.int .i64 c1,.int .i64 c2]).rd rfl).ext' hW2⟩) ((Ext.refl W).alloc _)) (by kernel_rfl)
  ·intro us W K HE hd HK
   obtain⟨g,d10,hr⟩:=hd 10 (by kernel_rfl)
   have RR:=hid (or_any [c1,c2] _ 2 2 W hr (by decide))
   rw[←HV.out] at RR;clear hr;dsimp only at HK⊢;rw[d10] at HK⊢;clear hd d10;go_wp2_with ((go_at_call 89;(with_reducible refine RR.out.mono ?_);rintro e w6 ⟨rfl,rfl⟩))
   exact K_at (Kz HK) (by kernel_rfl)
 ·intro us W hE hd
  try dsimp only
  have d11:=hd 11 (by decide)
  simp only[List.drop_succ_cons,List.drop_zero]
  rw[d11];have EW:=hid (E2.out.next (sg_undrew hE));clear hd hE d11;go_wp2_with fail
  go_ret
  exact⟨rfl,EW.out⟩
end
section
section
variable {P:Program} {ops:Array Oper} {Q:Exit→Act→World→Prop}
def flowStepV (P:Program)(l:List Oper)(Q:Exit→Act→World→Prop)(F:(Nat→Value)→Act)(L:Nat)(oL:Oper)(late aft:Nat→Bool)(R1 R2:World→World→Prop)(Raw:Nat→Value→World→Prop)(w0:World)(o:Oper)(i:Nat):Prop :=
 ∀(us:Nat→Value) (W:World) (K:Act→World→Prop),R1 w0 W→((i==L||waitsB oL i)=true→R2 w0 W)→(∀j,waitsB o j=true→(late j||j==L||aft j||(i==L||waitsB oL i))=true→Raw j (us j) W) →
  (∀v W',(∀W'',(cond (i==L||aft i||!late i) R2 R1) W' W''→Raw i v W'')→(cond (i==L) R1 R2) W W'→K ((F us).put o.dst v) W')→wpList P l.toArray (Exit.then K Q) [o] (F us) W
def flowStepsV (P:Program)(l:List Oper)(Q:Exit→Act→World→Prop)(F:(Nat→Value)→Act)(L:Nat)(oL:Oper)(late aft:Nat→Bool)(R1 R2:World→World→Prop)(Raw:Nat→Value→World→Prop)(w0:World):List Oper→Nat→Prop
 | [],_=>True
 | o::r,k=>flowStepV P l Q F L oL late aft R1 R2 Raw w0 o k∧flowStepsV P l Q F L oL late aft R1 R2 Raw w0 r (k+1)
theorem flowStepsV_at {l:List Oper}{F:(Nat→Value)→Act}{L:Nat}{oL:Oper}{late aft:Nat→Bool}{R1 R2:World→World→Prop}{Raw:Nat→Value→World→Prop}{w0:World}:∀ {r:List Oper} {k i:Nat} {o:Oper},flowStepsV P l Q F L oL late aft R1 R2 Raw w0 r k→r[i]?=some o→flowStepV P l Q F L oL late aft R1 R2 Raw w0 o (k+i)
 | [],_,_,_,_,h=>by simp at h
 | x::r,k,0,o,hs,h=>by
  simp only[List.getElem?_cons_zero,Option.some.injEq] at h
  subst h;exact hs.1
 | x::r,k,i+1,o,hs,h=>by
  simp only[List.getElem?_cons_succ] at h
  have:=flowStepsV_at hs.2 h
  rw[show k+1+i=k+(i+1) by omega] at this
  exact this
def aftB (l:List Oper)(L:Nat)(aft:Nat→Bool):Bool:=(List.range l.length).all fun i=>!aft i||(match l[i]? with|some o=>o.after.any (fun e=>Region.binds .any e&&(e.on==L||aft e.on)&&decide (e.on<i))|none=>true)
theorem aft_listed {l:List Oper}{n L:Nat}{aft:Nat→Bool}{listed:Array Bool}(inv:HeadInv .any l.toArray n listed)(hA:aftB l L aft=true):∀i,aft i=true→listed.getD i false=true→listed.getD L false=true:=by
 intro i
 induction i using Nat.strongRecOn with
 | _ i ih =>
  intro ha hl
  have hlt:i<l.length:=by
   rcases Nat.lt_or_ge i listed.size with h|h
   ·rw[inv.size] at h;simpa using h
   ·rw[Array.getD_eq_getD_getElem?,Array.getElem?_eq_none h] at hl;cases hl
  have ho:l[i]?=some l[i]:=List.getElem?_eq_getElem hlt
  have h1:=List.all_eq_true.1 hA i (List.mem_range.2 hlt);rw[ha,ho] at h1;simp only[Bool.not_true,Bool.false_or] at h1
  obtain⟨e,he,hb⟩:=Array.any_eq_true'.1 h1;simp only[Bool.and_eq_true,Bool.or_eq_true,beq_iff_eq,decide_eq_true_eq] at hb
  have h3:=inv.closed i l[i] (by rw[List.getElem?_toArray];exact ho) hl e he hb.1.1
  rcases hb.1.2 with h|h
  ·rw[h] at h3;exact h3
  ·exact ih e.on hb.2 h h3
theorem avail {late aft:Nat→Bool}{j L:Nat}{q B:Bool}(h:(late j||j==L||aft j||q)=true)(hL:q=true→B=false):late j=true∨B=false∨j=L∨aft j=true:=by
 simp only[Bool.or_eq_true,beq_iff_eq] at h
 rcases h with ((h|h)|h)|h
 ·exact Or.inl h
 ·exact Or.inr (Or.inr (Or.inl h))
 ·exact Or.inr (Or.inr (Or.inr h))
 ·exact Or.inr (Or.inl (hL h))
theorem flow_anyV {l:List Oper}{n L:Nat}{oL:Oper}{late aft:Nat→Bool}{F:(Nat→Value)→Act}{R1 R2:World→World→Prop}{Raw:Nat→Value→World→Prop}{a:Act}{w0:World}(hF:∀us,flowAct us (l.take n) 0 a=F us)(hB:flowB l n=true)(hA:aftB l L aft=true)(hL:l[L]?=some oL)(hR0:∀w,R2 w w)(h21:∀ {x y},R2 x y→R1 x y)(hR1t:∀ {x y z},R1 x y→R1 y z→R1 x z)(hR2t:∀ {x y z},R2 x y→R2 y z→R2 x z)
  (hs:flowStepsV P l Q F L oL late aft R1 R2 Raw w0 (l.take n) 0)
  (ht:∀us W,R1 w0 W→(∀j,j<n→(late j||j==L||aft j)=true→Raw j (us j) W)→wpList P l.toArray Q (l.drop n) (F us) W) :
  ∀(m:Nat) (listed:Array Bool) (us:Nat→Value) (W:World),cntU n listed=m→HeadInv .any l.toArray n listed→R1 w0 W→(listed.getD L false=false→R2 w0 W)→(∀j,j<n→listed.getD j false=true→(late j=true∨listed.getD L false=false∨j=L∨aft j=true)→∀W',(cond (j==L||aft j||!late j) R2 R1) W W'→Raw j (us j) W') →
   wpAny P .any l.toArray Q (m+(l.length-n)) listed (flowAct us (l.take n) 0 a) W:=by
 have hc0:∀(b:Bool) w,(cond b R2 R1) w w:=fun b w=>by cases b<;>first|exact h21 (hR0 w)|exact hR0 w
 simp only[flowB,Bool.and_eq_true,Bool.or_eq_true,decide_eq_true_eq] at hB
 obtain⟨⟨⟨⟨hn,hdis⟩,hback⟩,hsink⟩,hseq⟩:=hB;intro m
 induction m with
 | zero =>
  intro listed us W hc inv hR hR2 hf;have hfull:=full_eq inv (by simpa using hn) hc
  have hz:=cntU_zero hc;rw[Nat.zero_add,hfull];have:=wpAny_of_seq (P:=P) (md:=.any) (ops:=l.toArray) (Q':=Q) (l.drop n) n (headFull n l.toArray.size) (flowAct us (l.take n) 0 a) W (fun j=>by simp [List.getElem?_drop]) (by simpa using hseq) (by rw[hF];exact ht us W hR (fun j hj hlj=>hf j hj (hz j hj) (by simp only[Bool.or_eq_true,beq_iff_eq] at hlj;exact hlj.elim (fun h=>h.elim Or.inl (fun h=>Or.inr (Or.inr (Or.inl h)))) (fun h=>Or.inr (Or.inr (Or.inr h)))) W (hc0 _ W)))
  rw[List.length_drop] at this;exact this
 | succ m ih =>
  intro listed us W hc inv hR hR2 hf;rw[show m+1+(l.length-n)=(m+(l.length-n))+1 by omega]
  obtain⟨i0,hi0,hu0,hl0⟩:=cntU_first (n:=n) (listed:=listed) (by omega)
  have hin0:i0<listed.size:=by rw[inv.size];simp;omega
  have hu0':listed.getD i0 true=false:=getD_in hin0 hu0;have ho0:l[i0]?=some (l[i0]'(by omega)):=List.getElem?_eq_getElem _
  have hr0:i0∈Region.ready .any l.toArray listed:=mem_ready.2 ⟨hu0',_,by rw[List.getElem?_toArray];exact ho0,fun e he hb=>hl0 _ (by have:=backB_spec hback ho0 e he hb;omega)⟩
  refine⟨fun h=>(by rw[h] at hr0;cases hr0),fun i hi=>?_⟩
  obtain⟨hiu,o,ho,hall⟩:=mem_ready.1 hi;rw[List.getElem?_toArray] at ho
  have hil:i<l.length:=(List.getElem?_eq_some_iff.1 ho).1
  have hin:i<n:=by
   rcases Nat.lt_or_ge i n with h|h
   ·exact h
   ·rcases hsink with he|⟨⟨hlt,hsi⟩,hch⟩
    ·omega
    ·exact absurd hi (tail_waits hsi hch (by simpa using hlt) inv _ i0 rfl hi0 hu0' i h)
  have hoh:(l.take n)[i]?=some o:=by rw[List.getElem?_take,if_pos hin];exact ho
  have hstep:=flowStepsV_at hs hoh
  have hif:listed.getD i false=false:=by
   cases h:listed.getD i false with
   | false=>rfl
   | true =>
    have hlt:i<listed.size:=by
     rw[inv.size];simpa using hil
    rw[Array.getD_eq_getD_getElem?,Array.getElem?_eq_getElem hlt] at h hiu
    simp only[Option.getD_some] at h hiu
    rw[h] at hiu
    cases hiu
  rw[Nat.zero_add] at hstep
  have hLn:(i==L||waitsB oL i)=true→listed.getD L false=false:=fun hiL=>by
   rw[Bool.or_eq_true] at hiL;rcases hiL with h|h
   ·have:i=L:=by simpa using h
    rw[←this];exact hif
   ·cases hl:listed.getD L false with
    | false=>rfl
    | true =>
     obtain⟨e,he,hb⟩:=Array.any_eq_true'.1 h;simp only[Bool.and_eq_true,beq_iff_eq] at hb
     have h3:=inv.closed L oL (by rw[List.getElem?_toArray];exact hL) hl e he hb.1
     rw[hb.2,hif] at h3
     cases h3
  rw[hF];refine wpOp_of_one (by rw[List.getElem?_toArray];exact ho) (hstep us W _ hR (fun hiL=>hR2 (hLn hiL)) (fun j hj hlj=>?_) (fun v W' hv hWW=>?_))
  ·obtain⟨e,he,hb⟩:=Array.any_eq_true'.1 hj
   simp only[Bool.and_eq_true,beq_iff_eq] at hb
   have h1:=hall e he hb.1;have h2:=backB_spec hback ho e he hb.1;rw[hb.2] at h1 h2;exact hf j (by omega) h1 (avail hlj hLn) W (hc0 _ W)
  ·rw[←hF,flowAct_put us v (l.take n) 0 i o a hdis hoh,Nat.zero_add]
   have hWW1:R1 W W':=by
    cases hb:(i==L)<;>rw[hb] at hWW
    ·exact h21 hWW
    ·exact hWW
   refine ih (listed.setIfInBounds i true) (upd us i v) W' (by have:=cntU_set hin hiu;omega) (inv.set hi hin) (hR1t hR hWW1) (fun hLf=>?_) (fun j hj hjl hjc W'' hW''=>?_)
   ·by_cases hiL:i=L
    ·subst hiL
     have hlt:i<listed.size:=by rw[inv.size];simpa using hil
     rw[Array.getD_eq_getD_getElem?,Array.getElem?_setIfInBounds_self_of_lt hlt] at hLf
     cases hLf
    ·rw[getD_set_ne false hiL] at hLf
     have hb:(i==L)=false:=by simpa using hiL
     rw[hb] at hWW;exact hR2t (hR2 hLf) hWW
   ·by_cases hji:j=i
    ·subst hji
     simp only[upd,if_true]
     exact hv W'' hW''
    ·simp only[upd,if_neg hji]
     rw[getD_set_ne false (Ne.symm hji)] at hjl
     have hjc2:late j=true∨listed.getD L false=false∨j=L∨aft j=true:=by
      rcases hjc with h|h|h
      ·exact Or.inl h
      ·by_cases hiL:i=L
       ·subst hiL
        have hlt:i<listed.size:=by rw[inv.size];simpa using hil
        rw[Array.getD_eq_getD_getElem?,Array.getElem?_setIfInBounds_self_of_lt hlt] at h
        cases h
       ·rw[getD_set_ne false hiL] at h
        exact Or.inr (Or.inl h)
      ·exact Or.inr (Or.inr h)
     refine hf j hj hjl hjc2 W'' ?_
     cases hb:(j==L||aft j||!late j)<;>rw[hb] at hW''
     ·exact hR1t hWW1 hW''
     ·have hiL:(i==L)=false:=by
       cases h:(i==L) with
       | false=>rfl
       | true =>
        exfalso
        have hiL:i=L:=by simpa using h
        have hjL:j≠L:=fun h2=>hji (h2.trans hiL.symm)
        cases ha:aft j with
        | true =>
         have h5:=aft_listed inv hA j ha hjl;rw[←hiL,hif] at h5
         cases h5
        | false =>
         have hnl:late j=false:=by
          have:(j==L)=false:=by simpa using hjL
          rw[this,ha,Bool.false_or,Bool.false_or] at hb;simpa using hb
         rcases hjc with h3|h3|h3|h3
         ·rw[hnl] at h3;cases h3
         ·subst hiL
          have hlt:i<listed.size:=by rw[inv.size];simpa using hil
          rw[Array.getD_eq_getD_getElem?,Array.getElem?_setIfInBounds_self_of_lt hlt] at h3
          cases h3
         ·exact hjL h3
         ·rw[ha] at h3;cases h3
      rw[hiL] at hWW;exact hR2t hWW hW''
theorem wp_region_flowV {id:Nat}{a:Act}{w:World}{l:List Oper}(n L:Nat)(oL:Oper)(late aft:Nat→Bool)(F:(Nat→Value)→Act)(hF:∀us,flowAct us (l.take n) 0 a=F us)(hm:P.follows .mixedOrders=true)(hB:flowB l n=true)(hA:aftB l L aft=true)(hL:l[L]?=some oL)(R1 R2:World→World→Prop)(hR0:∀w,R2 w w)(h21:∀ {x y},R2 x y→R1 x y)(hR1t:∀ {x y z},R1 x y→R1 y z→R1 x z)(hR2t:∀ {x y z},R2 x y→R2 y z→R2 x z)(Raw:Nat→Value→World→Prop)
  (hs:flowStepsV P l Q F L oL late aft R1 R2 Raw w.drew (l.take n) 0)
  (ht:∀us W,R1 w.drew W→(∀j,j<n→(late j||j==L||aft j)=true→Raw j (us j) W)→wpList P l.toArray Q (l.drop n) (F us) W):(Code.region id l.toArray true).wp P Q a w:=by
 refine wp_region_any hm ?_
 have hn:n≤l.length:=by
  simp only[flowB,Bool.and_eq_true,decide_eq_true_eq] at hB
  exact hB.1.1.1.1
 let us0:Nat→Value:=fun i=>match (l.take n)[i]? with|some o=>(match o.dst with|some d=>a.tmps.getD d undef|none=>undef)|none=>undef
 have h0:flowAct us0 (l.take n) 0 a=a:=flowAct_own (l.take n) 0 a us0 fun i o ho=>by simp only[us0,Nat.zero_add,ho]<;>(cases o.dst<;>rfl)
 have hc:cntU n (Array.replicate l.toArray.size false)=n:=by
  unfold cntU;rw[List.filter_eq_self.2 (fun i _=>by rw[getD_replicate_false];rfl),List.length_range]
 have inv0:HeadInv .any l.toArray n (Array.replicate l.toArray.size false) :=
  ⟨by simp,fun j oj _ hl=>(by rw[getD_replicate_false] at hl;cases hl),fun t _ ht=>getD_in (by simpa using ht) (getD_replicate_false _ _)⟩
 have H:=flow_anyV (Q:=Q) hF hB hA hL hR0 (fun h=>h21 h) (fun h1 h2=>hR1t h1 h2) (fun h1 h2=>hR2t h1 h2) hs ht n _ us0 w.drew hc inv0 (h21 (hR0 _)) (fun _=>hR0 _) (fun j _ hj=>by rw[getD_replicate_false] at hj;cases hj)
 rw[h0,show n+(l.length-n)=l.toArray.size by simp;omega] at H
 exact H
end
end
end Go.Proofs.YtjeecfjeooehhaaGreatDoor