/- Valid of a review: the program's and the reference's. Conditions: at most 1000 operations. -/
import Derived.Test.YtjeecfjeooehhaaGreatDoorM6
set_option linter.unusedSimpArgs false
set_option linter.unusedVariables false
set_option maxHeartbeats 16000000
set_option maxRecDepth 100000
namespace Go.Proofs.YtjeecfjeooehhaaGreatDoor
open Go.RowKit
open Lib (hid)
section
attribute [local go_sem ↓] wp_at_zero wp_at_succ
structure Rev where
 shop:Int
 seq:Int
 day:Int
 wd:Bool
 ops:List Rid
 mean:List Int
 sl:ByteArray
def revC (r:Rev)(A:Option Addr)(n c:Nat):List Value:=[.int .i64 r.shop,.int .i64 r.seq,.int .i64 r.day,.bool r.wd,.slice A n c]++u8s r.mean++[.string r.sl]
theorem info_rev:(Tryz.prog.info? 28).map (·.size)=some 22:=by kernel_rfl
structure RevV (w:World) (r:Rev) (A:Option Addr) (n c:Nat):Prop where
 row:RdN w w.heap.size 3 A n (idsC r.ops)
 le:n≤c
 cap:c≤9223372036854775807
 few:n≤1000000000000
 mean:r.mean.length=16
 mbyt:Byt r.mean
theorem RevV.ext {w w':World}{r:Rev}{A:Option Addr}{n c:Nat}(h:RevV w r A n c)(hE:Ext w w'):RevV w' r A n c:=⟨(h.row.below hE (Nat.le_refl _)).more hE.size,h.le,h.cap,h.few,h.mean,h.mbyt⟩
theorem RevV.len {w:World}{r:Rev}{A:Option Addr}{n c:Nat}(h:RevV w r A n c):r.ops.length=n:=by have:=h.row.1;rw[idsC_len] at this;omega
def rid0:Rid:=⟨0,0,0⟩
def goodB (L:List Rid)(i:Nat):Bool:=idB (L.getD i rid0)&&(decide (i=0)||lessB (L.getD (i-1) rid0) (L.getD i rid0))
def okB (L:List Rid):Bool:=(List.range L.length).all (goodB L)
def validE (r:Rev):Int:=if (rnumB r.shop r.seq&&winB r.day 1 1048576)=false then 5 else if 32<r.ops.length then 4 else if r.ops.length=0 then 1 else if okB r.ops then 0 else 1
theorem okB_of {L:List Rid}(h:∀j,j<L.length→goodB L j=true):okB L=true:=List.all_eq_true.2 (fun i hi=>h i (List.mem_range.1 hi))
theorem okB_not {L:List Rid}{t:Nat}(ht:t<L.length)(h:goodB L t=false):okB L=false:=by
 cases hb:okB L with
 | false=>rfl
 | true =>
  have:=List.all_eq_true.1 hb t (List.mem_range.2 ht)
  rw[h] at this
  cases this
theorem getD_of {L:List Rid}{t:Nat}(ht:t<L.length):L[t]?=some (L.getD t rid0):=by
 rw[List.getD_eq_getElem?_getD,List.getElem?_eq_getElem ht];rfl
theorem rev_cell {r:Rev}{A:Option Addr}{n c:Nat}{w:World}{g:Nat}{t:TypeId}(h:Blk w g t (revC r A n c)):w.cell? ⟨g,0,none⟩=some (.int .i64 r.shop)∧w.cell? ⟨g,1,none⟩=some (.int .i64 r.seq)∧w.cell? ⟨g,2,none⟩=some (.int .i64 r.day)∧w.cell? ⟨g,3,none⟩=some (.bool r.wd)∧w.cell? ⟨g,4,none⟩=some (.slice A n c):=⟨h.cell 0,h.cell 1,h.cell 2,h.cell 3,h.cell 4⟩
theorem valid_any (r:Rev)(A:Option Addr)(n c:Nat)(w:World)(hr:RevV w r A n c):Calls Tryz.prog 23 #[.agg (revC r A n c).toArray] w fun e w'=>e=.returned (.int .i64 (validE r))∧Ext w w':=by
 have HR:=hid hr;have HLN:=hid hr.len;have hn:=hr.few;obtain⟨V,hV⟩:∃v,v=validE r:=⟨_,rfl⟩
 obtain⟨a,ha⟩:∃a,a=rnumB r.shop r.seq:=⟨_,rfl⟩
 obtain⟨b,hb⟩:∃b,b=winB r.day 1 1048576:=⟨_,rfl⟩
 have HV5:Hid ((a&&b)=false→V=5):=hid (fun h=>by rw[hV];unfold validE;rw[←ha,←hb,if_pos h])
 have HV4:Hid ((a&&b)=true→32<n→V=4):=hid (fun h h2=>by rw[hV];unfold validE;rw[←ha,←hb,if_neg (by rw[h];decide),HLN.out,if_pos h2])
 have HV1:Hid ((a&&b)=true→n=0→V=1):=hid (fun h h2=>by rw[hV];unfold validE;rw[←ha,←hb,if_neg (by rw[h];decide),HLN.out,if_neg (by omega),if_pos h2])
 have HV0:Hid ((a&&b)=true→¬ 32<n→¬n=0→okB r.ops=true→V=0):=hid (fun h h2 h3 h4=>by rw[hV];unfold validE;rw[←ha,←hb,if_neg (by rw[h];decide),HLN.out,if_neg h2,if_neg h3,if_pos h4])
 have HVB:Hid ((a&&b)=true→¬ 32<n→¬n=0→okB r.ops=false→V=1):=hid (fun h h2 h3 h4=>by rw[hV];unfold validE;rw[←ha,←hb,if_neg (by rw[h];decide),HLN.out,if_neg h2,if_neg h3,if_neg (by rw[h4];decide)])
 have HN1:Hid (∀W,Calls Tryz.prog 47 #[.int .i64 r.shop,.int .i64 r.seq] W fun e w'=>e=.returned (.bool a)∧W=w'):=hid (fun W=>by rw[ha];exact numbered_any r.shop r.seq W)
 have HW1:Hid (∀W,Calls Tryz.prog 48 #[.int .i64 r.day,.int .i64 1,.int .i64 1048576] W fun e w'=>e=.returned (.bool b)∧W=w'):=hid (fun W=>by rw[hb];exact within_any r.day 1 1048576 W)
 rw[←hV];clear hV ha hb hr;go_enter Tryz.func23,Tryz.ntmps23
 go_upto_region 1 with fail
 obtain⟨w1,hw1⟩:∃x,x=w.alloc (.cells (revC r A n c).toArray 28):=⟨_,rfl⟩
 change Code.wp _ _ _ _ (w.alloc (.cells (revC r A n c).toArray 28))
 rw[←hw1];have E1:Hid (Ext w w1):=hid (by rw[hw1];exact (Ext.refl w).alloc _)
 have BR:Hid (Blk w1 w.heap.size 28 (revC r A n c)):=hid (by rw[hw1];exact Blk.fresh' _ _ _ _ _ rfl rfl)
 clear hw1;obtain⟨c0,c1,c2,c3,c4⟩:=rev_cell BR.out;clear c3
 cases a
 ·have hv:=hid (HV5.out rfl)
  go_wp2_with ((go_at_call 47;(with_reducible refine (HN1.out w1).mono ?_);rintro e w3 ⟨rfl,rfl⟩))
  go_ret
  exact⟨by rw[hv.out];rfl,E1.out⟩
 cases b
 ·have hv:=hid (HV5.out rfl)
  go_wp2_with ((first
   | (go_at_call 47;(with_reducible refine (HN1.out w1).mono ?_);rintro e w3 ⟨rfl,rfl⟩)
   | (go_at_call 48;(with_reducible refine (HW1.out w1).mono ?_);rintro e w3 ⟨rfl,rfl⟩)))
  go_ret
  exact⟨by rw[hv.out];rfl,E1.out⟩
 by_cases h32:32<n
 ·have hv:=hid (HV4.out rfl h32)
  go_wp2_with ((first
   | (go_at_call 47;(with_reducible refine (HN1.out w1).mono ?_);rintro e w3 ⟨rfl,rfl⟩)
   | (go_at_call 48;(with_reducible refine (HW1.out w1).mono ?_);rintro e w3 ⟨rfl,rfl⟩)))
  go_ret
  exact⟨by rw[hv.out];rfl,E1.out⟩
 by_cases h0:n=0
 ·have hv:=hid (HV1.out rfl h0)
  subst h0
  go_wp2_with ((first
   | (go_at_call 47;(with_reducible refine (HN1.out w1).mono ?_);rintro e w3 ⟨rfl,rfl⟩)
   | (go_at_call 48;(with_reducible refine (HW1.out w1).mono ?_);rintro e w3 ⟨rfl,rfl⟩)))
  go_ret
  exact⟨by rw[hv.out];rfl,E1.out⟩
 have HVG:=hid (HV0.out rfl h32 h0);have HVX:=hid (HVB.out rfl h32 h0);have hd32:decide (32<(n:Int))=false:=decide_eq_false (by omega)
 have hd0:((n:Int)==0)=false:=by rw[beq_eq_false_iff_ne];omega
 obtain⟨g,p,hA,hg,hcc⟩:=HR.out.row.2 (by omega)
 subst hA;have HG:=hid hg;have HCC:=hid hcc;clear hg hcc HV5 HV4 HV1 HV0 HVB
 go_wp2_with ((first
  | (go_at_call 47;(with_reducible refine (HN1.out w1).mono ?_);rintro e w3 ⟨rfl,rfl⟩)
  | (go_at_call 48;(with_reducible refine (HW1.out w1).mono ?_);rintro e w3 ⟨rfl,rfl⟩)))
 go_loopw [31] (fun k wr=>∃t:Nat,t≤n∧k=.int .i64 (t:Int)∧Ext w1 wr∧∀j,j<t→goodB r.ops j=true) (fun k _=>n-(intOf k).toNat)
 case atStart=>exact⟨0,by omega,rfl,Ext.refl _,fun j hj=>by omega⟩
 case round =>
  obtain⟨t,ht,rfl,hE,hz⟩:=hrel;have EO:=hid hE;have HZ:=hid hz;clear hE hz c0 c1 c2 c4 HN1 HW1;obtain⟨wo,rfl⟩:∃x:World,x=wr:=⟨_,rfl⟩
  by_cases hlt:t<n
  ·obtain⟨⟨s,q,z⟩,hy⟩:∃y,y=r.ops.getD t rid0:=⟨_,rfl⟩
   have hy2:r.ops[t]?=some ⟨s,q,z⟩:=by rw[hy];exact getD_of (by rw[HLN.out];exact hlt)
   have HRG:Hid (∀W,Ext w W→W.rangeAt g (p+t*3) [.int .i64 s,.int .i64 q,.int .i64 z]):=hid (fun W hW=>ids_range (L:=r.ops) (x:=⟨s,q,z⟩) (fun j u hu=>(hW.cell (p:=⟨g,p+j,none⟩) HG.out).trans (HCC.out j u hu)) hy2)
   have HGD:Hid (goodB r.ops t=(idB ⟨s,q,z⟩&&(decide (t=0)||lessB (r.ops.getD (t-1) rid0) ⟨s,q,z⟩))):=hid (by unfold goodB;rw[←hy])
   have HBAD:Hid (goodB r.ops t=false→V=1):=hid (fun h=>HVX.out (okB_not (by rw[HLN.out];exact hlt) h))
   have HGO:Hid (goodB r.ops t=true→∀j,j<t+1→goodB r.ops j=true):=hid (fun h j hj=>by
    rcases Nat.lt_or_ge j t with h1|h1
    ·exact HZ.out j h1
    ·obtain rfl:j=t:=by omega
     exact h)
   clear hy2 HVX HZ;have hrw:=hid (HRG.out wo (E1.out.next EO.out));obtain⟨z0,hz0,hz1⟩:∃Z:List Value,(∀W,(zeroValue 68).run Tryz.prog W=.ok (.agg Z.toArray) W)∧Z.length=3:=⟨[.int .i64 0,.int .i64 0,.int .i64 0],fun W=>by kernel_rfl,rfl⟩
   have HZ1:=hid hz1;clear hz1
   go_upto_region 10 with ((first
    | (refine wpList_load_mid rfl 68 (.tmp 34) rfl g (p+t*3) rfl [.int .i64 s,.int .i64 q,.int .i64 z] _ hrw.out Tryz.underlying68 rfl (info_id.trans rfl) ?_)
    | (refine wpList_store_fresh rfl 68 (.tmp 4) (.tmp 35) rfl _ wo.heap.size rfl z0 [.int .i64 s,.int .i64 q,.int .i64 z] 68 (by rfl) (by rfl) rfl (info_id.trans rfl) (HZ1.out.trans rfl) (idC_one ⟨s,q,z⟩) ?_;intro w6 hw6 hE6 hz6;have E6:Hid (Ext w w6):=hid ((E1.out.next EO.out).next hE6);have E16:Hid (Ext w1 w6):=hid (EO.out.next hE6);have B6:=hid hw6;clear hw6 hE6 hz6)))
   clear hz0 hrw;simp only[Act.put]
   have HNU:Hid (∀W,Calls Tryz.prog 47 #[.int .i64 s,.int .i64 q] W fun e w'=>e=.returned (.bool (rnumB s q))∧W=w'):=hid (fun W=>numbered_any s q W)
   have HWI:Hid (∀W,Calls Tryz.prog 48 #[.int .i64 z,.int .i64 0,.int .i64 31] W fun e w'=>e=.returned (.bool (winB z 0 31))∧W=w'):=hid (fun W=>within_any z 0 31 W)
   have HID:Hid (idB ⟨s,q,z⟩=(rnumB s q&&winB z 0 31)):=hid rfl;clear h32 h0 hd32 hd0;obtain⟨a',ha'⟩:∃x,x=rnumB s q:=⟨_,rfl⟩
   obtain⟨b',hb'⟩:∃x,x=winB z 0 31:=⟨_,rfl⟩
   rw[←ha'] at HNU HID;rw[←hb'] at HWI HID;clear ha' hb'
   cases a'
   ·have HBF:Hid ((idB ⟨s,q,z⟩&&(decide (t=0)||lessB (r.ops.getD (t-1) rid0) ⟨s,q,z⟩))=false):=hid (by rw[HID.out];rfl)
    clear hlt
    refine wp_region_flowG 26 ?FW1 (fun us=>?_) (by kernel_rfl) (by kernel_rfl) (fun a b=>Ext a b) Ext.refl (fun h1 h2=>h1.next h2) (fun i v W=>match i with
     | 0=>v=.pointer (some ⟨wo.heap.size,0,none⟩)
     | 1=>v=.int .i64 s
     | 2=>v=.pointer (some ⟨wo.heap.size,1,none⟩)
     | 3=>v=.int .i64 q
     | 4=>v=.bool false
     | 5=>v=.bool true
     | 6=>v=.bool true
     | 7=>v=undef
     | 8=>v=undef
     | 9=>v=undef
     | 10=>v=undef
     | 11=>v=.bool true
     | 12=>v=.bool true
     | 13=>v=undef
     | 14=>v=undef
     | 15=>v=undef
     | 16=>v=undef
     | 17=>v=undef
     | 18=>v=undef
     | 19=>v=undef
     | 20=>v=undef
     | 21=>v=undef
     | 22=>v=undef
     | 23=>v=undef
     | 24=>v=undef
     | 25=>v=undef
     | _=>True) ?_ ?_
    case refine_1 =>
     simp only[List.take_succ_cons,List.take_zero,flowAct,Nat.zero_add,Nat.reduceAdd,Act.put,List.setIfInBounds_toArray,List.set_cons_succ,List.set_cons_zero]
     rfl
    ·simp only[List.take_succ_cons,List.take_zero,flowStepsG]
     refine⟨?_,?_,?_,?_,?_,?_,?_,?_,?_,?_,?_,?_,?_,?_,?_,?_,?_,?_,?_,?_,?_,?_,?_,?_,?_,?_,trivial⟩
     ·intro us W K HE hd HK
      dsimp only at HK⊢;clear hd;go_wp2_with fail
      exact K_at (Kz HK) (by kernel_rfl)
     ·intro us W K HE hd HK
      have d0:=hd 0 (by kernel_rfl)
      have xk:W.cell? ⟨wo.heap.size,0,none⟩=some (.int .i64 s):=(B6.out.ext (sg_undrew HE.out)).cell 0
      dsimp only at HK⊢;rw[d0] at HK⊢;clear hd d0;go_wp2_with fail
      exact K_at (Kz HK) (by kernel_rfl)
     ·intro us W K HE hd HK
      dsimp only at HK⊢;clear hd;go_wp2_with fail
      exact K_at (Kz HK) (by kernel_rfl)
     ·intro us W K HE hd HK
      have d2:=hd 2 (by kernel_rfl)
      have xk:W.cell? ⟨wo.heap.size,1,none⟩=some (.int .i64 q):=(B6.out.ext (sg_undrew HE.out)).cell 1
      dsimp only at HK⊢;rw[d2] at HK⊢;clear hd d2;go_wp2_with fail
      exact K_at (Kz HK) (by kernel_rfl)
     ·intro us W K HE hd HK
      have d1:=hd 1 (by kernel_rfl)
      have d3:=hd 3 (by kernel_rfl)
      dsimp only at HK⊢;rw[d1,d3] at HK⊢;clear hd d1 d3;go_wp2_with ((go_at_call 47;(with_reducible refine (HNU.out W).mono ?_);rintro e w7 ⟨rfl,rfl⟩))
      exact K_at (Kz HK) (by kernel_rfl)
     ·intro us W K HE hd HK
      have d4:=hd 4 (by kernel_rfl)
      dsimp only at HK⊢;rw[d4] at HK⊢;clear hd d4;go_wp2_with fail
      exact K_at (Kz HK) (by kernel_rfl)
     ·intro us W K HE hd HK
      have d5:=hd 5 (by kernel_rfl)
      dsimp only at HK⊢;rw[d5] at HK⊢;clear hd d5;go_wp2_with fail
      exact K_at (Kz HK) (by kernel_rfl)
     ·intro us W K HE hd HK
      have d6:=hd 6 (by kernel_rfl)
      dsimp only at HK⊢;rw[d6] at HK⊢;clear hd d6;go_wp2_with fail
      exact K_at (Kz HK) (by kernel_rfl)
     ·intro us W K HE hd HK
      have d6:=hd 6 (by kernel_rfl)
      have d7:=hd 7 (by kernel_rfl)
      dsimp only at HK⊢;rw[d6,d7] at HK⊢;clear hd d6 d7;go_wp2_with fail
      exact K_at (Kz HK) (by kernel_rfl)
     ·intro us W K HE hd HK
      have d6:=hd 6 (by kernel_rfl)
      have d8:=hd 8 (by kernel_rfl)
      dsimp only at HK⊢;rw[d6,d8] at HK⊢;clear hd d6 d8;go_wp2_with fail
      exact K_at (Kz HK) (by kernel_rfl)
     ·intro us W K HE hd HK
      have d6:=hd 6 (by kernel_rfl)
      have d9:=hd 9 (by kernel_rfl)
      dsimp only at HK⊢;rw[d6,d9] at HK⊢;clear hd d6 d9;go_wp2_with fail
      exact K_at (Kz HK) (by kernel_rfl)
     ·intro us W K HE hd HK
      have d6:=hd 6 (by kernel_rfl)
      have d10:=hd 10 (by kernel_rfl)
      dsimp only at HK⊢;rw[d6,d10] at HK⊢;clear hd d6 d10;go_wp2_with fail
      exact K_at (Kz HK) (by kernel_rfl)
     ·intro us W K HE hd HK
      have d11:=hd 11 (by kernel_rfl)
      dsimp only at HK⊢;rw[d11] at HK⊢;clear hd d11;go_wp2_with fail
      exact K_at (Kz HK) (by kernel_rfl)
     ·intro us W K HE hd HK
      have d12:=hd 12 (by kernel_rfl)
      dsimp only at HK⊢;rw[d12] at HK⊢;clear hd d12;go_wp2_with fail
      exact K_at (Kz HK) (by kernel_rfl)
     ·intro us W K HE hd HK
      have d12:=hd 12 (by kernel_rfl)
      have d13:=hd 13 (by kernel_rfl)
      dsimp only at HK⊢;rw[d12,d13] at HK⊢;clear hd d12 d13;go_wp2_with fail
      exact K_at (Kz HK) (by kernel_rfl)
     ·intro us W K HE hd HK
      have d12:=hd 12 (by kernel_rfl)
      have d14:=hd 14 (by kernel_rfl)
      dsimp only at HK⊢;rw[d12,d14] at HK⊢;clear hd d12 d14;go_wp2_with fail
      exact K_at (Kz HK) (by kernel_rfl)
     ·intro us W K HE hd HK
      have d15:=hd 15 (by kernel_rfl)
      dsimp only at HK⊢;rw[d15] at HK⊢;clear hd d15;go_wp2_with fail
      exact K_at (Kz HK) (by kernel_rfl)
     ·intro us W K HE hd HK
      have d15:=hd 15 (by kernel_rfl)
      have d16:=hd 16 (by kernel_rfl)
      dsimp only at HK⊢;rw[d15,d16] at HK⊢;clear hd d15 d16;go_wp2_with fail
      exact K_at (Kz HK) (by kernel_rfl)
     ·intro us W K HE hd HK
      have d15:=hd 15 (by kernel_rfl)
      dsimp only at HK⊢;rw[d15] at HK⊢;clear hd d15;go_wp2_with fail
      exact K_at (Kz HK) (by kernel_rfl)
     ·intro us W K HE hd HK
      have d15:=hd 15 (by kernel_rfl)
      have d18:=hd 18 (by kernel_rfl)
      dsimp only at HK⊢;rw[d15,d18] at HK⊢;clear hd d15 d18;go_wp2_with fail
      exact K_at (Kz HK) (by kernel_rfl)
     ·intro us W K HE hd HK
      have d15:=hd 15 (by kernel_rfl)
      have d17:=hd 17 (by kernel_rfl)
      have d19:=hd 19 (by kernel_rfl)
      dsimp only at HK⊢;rw[d15,d17,d19] at HK⊢;clear hd d15 d17 d19;go_wp2_with fail
      exact K_at (Kz HK) (by kernel_rfl)
     ·intro us W K HE hd HK
      have d15:=hd 15 (by kernel_rfl)
      have d20:=hd 20 (by kernel_rfl)
      dsimp only at HK⊢;rw[d15,d20] at HK⊢;clear hd d15 d20;go_wp2_with fail
      exact K_at (Kz HK) (by kernel_rfl)
     ·intro us W K HE hd HK
      have d15:=hd 15 (by kernel_rfl)
      dsimp only at HK⊢;rw[d15] at HK⊢;clear hd d15;go_wp2_with fail
      exact K_at (Kz HK) (by kernel_rfl)
     ·intro us W K HE hd HK
      have d15:=hd 15 (by kernel_rfl)
      have d21:=hd 21 (by kernel_rfl)
      have d22:=hd 22 (by kernel_rfl)
      dsimp only at HK⊢;rw[d15,d21,d22] at HK⊢;clear hd d15 d21 d22;go_wp2_with fail
      exact K_at (Kz HK) (by kernel_rfl)
     ·intro us W K HE hd HK
      have d15:=hd 15 (by kernel_rfl)
      have d23:=hd 23 (by kernel_rfl)
      dsimp only at HK⊢;rw[d15,d23] at HK⊢;clear hd d15 d23;go_wp2_with fail
      exact K_at (Kz HK) (by kernel_rfl)
     ·intro us W K HE hd HK
      have d12:=hd 12 (by kernel_rfl)
      have d15:=hd 15 (by kernel_rfl)
      have d24:=hd 24 (by kernel_rfl)
      dsimp only at HK⊢;rw[d12,d15,d24] at HK⊢;clear hd d12 d15 d24;go_wp2_with fail
      exact K_at (Kz HK) (by kernel_rfl)
    ·intro us W hE hd
     try dsimp only
     have d12:=hd 12 (by decide)
     have d25:=hd 25 (by decide)
     simp only[List.drop_succ_cons,List.drop_zero]
     rw[d12,d25];have EW:=hid (E6.out.next (sg_undrew hE));have EW1:=hid (E16.out.next (sg_undrew hE));clear hd hE d12 d25;have hv:=hid (HBAD.out (by rw[HGD.out];exact HBF.out))
     go_wp2_with fail
     go_ret
     exact⟨by rw[hv.out];rfl,EW.out⟩
   cases b'
   ·have HBF:Hid ((idB ⟨s,q,z⟩&&(decide (t=0)||lessB (r.ops.getD (t-1) rid0) ⟨s,q,z⟩))=false):=hid (by rw[HID.out];rfl)
    clear hlt
    refine wp_region_flowG 26 ?FW2 (fun us=>?_) (by kernel_rfl) (by kernel_rfl) (fun a b=>Ext a b) Ext.refl (fun h1 h2=>h1.next h2) (fun i v W=>match i with
     | 0=>v=.pointer (some ⟨wo.heap.size,0,none⟩)
     | 1=>v=.int .i64 s
     | 2=>v=.pointer (some ⟨wo.heap.size,1,none⟩)
     | 3=>v=.int .i64 q
     | 4=>v=.bool true
     | 5=>v=.bool false
     | 6=>v=.bool false
     | 7=>v=.pointer (some ⟨wo.heap.size,2,none⟩)
     | 8=>v=.int .i64 z
     | 9=>v=.bool false
     | 10=>v=.bool true
     | 11=>v=.bool true
     | 12=>v=.bool true
     | 13=>v=undef
     | 14=>v=undef
     | 15=>v=undef
     | 16=>v=undef
     | 17=>v=undef
     | 18=>v=undef
     | 19=>v=undef
     | 20=>v=undef
     | 21=>v=undef
     | 22=>v=undef
     | 23=>v=undef
     | 24=>v=undef
     | 25=>v=undef
     | _=>True) ?_ ?_
    case refine_1 =>
     simp only[List.take_succ_cons,List.take_zero,flowAct,Nat.zero_add,Nat.reduceAdd,Act.put,List.setIfInBounds_toArray,List.set_cons_succ,List.set_cons_zero]
     rfl
    ·simp only[List.take_succ_cons,List.take_zero,flowStepsG]
     refine⟨?_,?_,?_,?_,?_,?_,?_,?_,?_,?_,?_,?_,?_,?_,?_,?_,?_,?_,?_,?_,?_,?_,?_,?_,?_,?_,trivial⟩
     ·intro us W K HE hd HK
      dsimp only at HK⊢;clear hd;go_wp2_with fail
      exact K_at (Kz HK) (by kernel_rfl)
     ·intro us W K HE hd HK
      have d0:=hd 0 (by kernel_rfl)
      have xk:W.cell? ⟨wo.heap.size,0,none⟩=some (.int .i64 s):=(B6.out.ext (sg_undrew HE.out)).cell 0
      dsimp only at HK⊢;rw[d0] at HK⊢;clear hd d0;go_wp2_with fail
      exact K_at (Kz HK) (by kernel_rfl)
     ·intro us W K HE hd HK
      dsimp only at HK⊢;clear hd;go_wp2_with fail
      exact K_at (Kz HK) (by kernel_rfl)
     ·intro us W K HE hd HK
      have d2:=hd 2 (by kernel_rfl)
      have xk:W.cell? ⟨wo.heap.size,1,none⟩=some (.int .i64 q):=(B6.out.ext (sg_undrew HE.out)).cell 1
      dsimp only at HK⊢;rw[d2] at HK⊢;clear hd d2;go_wp2_with fail
      exact K_at (Kz HK) (by kernel_rfl)
     ·intro us W K HE hd HK
      have d1:=hd 1 (by kernel_rfl)
      have d3:=hd 3 (by kernel_rfl)
      dsimp only at HK⊢;rw[d1,d3] at HK⊢;clear hd d1 d3;go_wp2_with ((go_at_call 47;(with_reducible refine (HNU.out W).mono ?_);rintro e w7 ⟨rfl,rfl⟩))
      exact K_at (Kz HK) (by kernel_rfl)
     ·intro us W K HE hd HK
      have d4:=hd 4 (by kernel_rfl)
      dsimp only at HK⊢;rw[d4] at HK⊢;clear hd d4;go_wp2_with fail
      exact K_at (Kz HK) (by kernel_rfl)
     ·intro us W K HE hd HK
      have d5:=hd 5 (by kernel_rfl)
      dsimp only at HK⊢;rw[d5] at HK⊢;clear hd d5;go_wp2_with fail
      exact K_at (Kz HK) (by kernel_rfl)
     ·intro us W K HE hd HK
      have d6:=hd 6 (by kernel_rfl)
      dsimp only at HK⊢;rw[d6] at HK⊢;clear hd d6;go_wp2_with fail
      exact K_at (Kz HK) (by kernel_rfl)
     ·intro us W K HE hd HK
      have d6:=hd 6 (by kernel_rfl)
      have d7:=hd 7 (by kernel_rfl)
      have xk:W.cell? ⟨wo.heap.size,2,none⟩=some (.int .i64 z):=(B6.out.ext (sg_undrew HE.out)).cell 2
      dsimp only at HK⊢;rw[d6,d7] at HK⊢;clear hd d6 d7;go_wp2_with fail
      exact K_at (Kz HK) (by kernel_rfl)
     ·intro us W K HE hd HK
      have d6:=hd 6 (by kernel_rfl)
      have d8:=hd 8 (by kernel_rfl)
      dsimp only at HK⊢;rw[d6,d8] at HK⊢;clear hd d6 d8;go_wp2_with ((go_at_call 48;(with_reducible refine (HWI.out W).mono ?_);rintro e w7 ⟨rfl,rfl⟩))
      exact K_at (Kz HK) (by kernel_rfl)
     ·intro us W K HE hd HK
      have d6:=hd 6 (by kernel_rfl)
      have d9:=hd 9 (by kernel_rfl)
      dsimp only at HK⊢;rw[d6,d9] at HK⊢;clear hd d6 d9;go_wp2_with fail
      exact K_at (Kz HK) (by kernel_rfl)
     ·intro us W K HE hd HK
      have d6:=hd 6 (by kernel_rfl)
      have d10:=hd 10 (by kernel_rfl)
      dsimp only at HK⊢;rw[d6,d10] at HK⊢;clear hd d6 d10;go_wp2_with fail
      exact K_at (Kz HK) (by kernel_rfl)
     ·intro us W K HE hd HK
      have d11:=hd 11 (by kernel_rfl)
      dsimp only at HK⊢;rw[d11] at HK⊢;clear hd d11;go_wp2_with fail
      exact K_at (Kz HK) (by kernel_rfl)
     ·intro us W K HE hd HK
      have d12:=hd 12 (by kernel_rfl)
      dsimp only at HK⊢;rw[d12] at HK⊢;clear hd d12;go_wp2_with fail
      exact K_at (Kz HK) (by kernel_rfl)
     ·intro us W K HE hd HK
      have d12:=hd 12 (by kernel_rfl)
      have d13:=hd 13 (by kernel_rfl)
      dsimp only at HK⊢;rw[d12,d13] at HK⊢;clear hd d12 d13;go_wp2_with fail
      exact K_at (Kz HK) (by kernel_rfl)
     ·intro us W K HE hd HK
      have d12:=hd 12 (by kernel_rfl)
      have d14:=hd 14 (by kernel_rfl)
      dsimp only at HK⊢;rw[d12,d14] at HK⊢;clear hd d12 d14;go_wp2_with fail
      exact K_at (Kz HK) (by kernel_rfl)
     ·intro us W K HE hd HK
      have d15:=hd 15 (by kernel_rfl)
      dsimp only at HK⊢;rw[d15] at HK⊢;clear hd d15;go_wp2_with fail
      exact K_at (Kz HK) (by kernel_rfl)
     ·intro us W K HE hd HK
      have d15:=hd 15 (by kernel_rfl)
      have d16:=hd 16 (by kernel_rfl)
      dsimp only at HK⊢;rw[d15,d16] at HK⊢;clear hd d15 d16;go_wp2_with fail
      exact K_at (Kz HK) (by kernel_rfl)
     ·intro us W K HE hd HK
      have d15:=hd 15 (by kernel_rfl)
      dsimp only at HK⊢;rw[d15] at HK⊢;clear hd d15;go_wp2_with fail
      exact K_at (Kz HK) (by kernel_rfl)
     ·intro us W K HE hd HK
      have d15:=hd 15 (by kernel_rfl)
      have d18:=hd 18 (by kernel_rfl)
      dsimp only at HK⊢;rw[d15,d18] at HK⊢;clear hd d15 d18;go_wp2_with fail
      exact K_at (Kz HK) (by kernel_rfl)
     ·intro us W K HE hd HK
      have d15:=hd 15 (by kernel_rfl)
      have d17:=hd 17 (by kernel_rfl)
      have d19:=hd 19 (by kernel_rfl)
      dsimp only at HK⊢;rw[d15,d17,d19] at HK⊢;clear hd d15 d17 d19;go_wp2_with fail
      exact K_at (Kz HK) (by kernel_rfl)
     ·intro us W K HE hd HK
      have d15:=hd 15 (by kernel_rfl)
      have d20:=hd 20 (by kernel_rfl)
      dsimp only at HK⊢;rw[d15,d20] at HK⊢;clear hd d15 d20;go_wp2_with fail
      exact K_at (Kz HK) (by kernel_rfl)
     ·intro us W K HE hd HK
      have d15:=hd 15 (by kernel_rfl)
      dsimp only at HK⊢;rw[d15] at HK⊢;clear hd d15;go_wp2_with fail
      exact K_at (Kz HK) (by kernel_rfl)
     ·intro us W K HE hd HK
      have d15:=hd 15 (by kernel_rfl)
      have d21:=hd 21 (by kernel_rfl)
      have d22:=hd 22 (by kernel_rfl)
      dsimp only at HK⊢;rw[d15,d21,d22] at HK⊢;clear hd d15 d21 d22;go_wp2_with fail
      exact K_at (Kz HK) (by kernel_rfl)
     ·intro us W K HE hd HK
      have d15:=hd 15 (by kernel_rfl)
      have d23:=hd 23 (by kernel_rfl)
      dsimp only at HK⊢;rw[d15,d23] at HK⊢;clear hd d15 d23;go_wp2_with fail
      exact K_at (Kz HK) (by kernel_rfl)
     ·intro us W K HE hd HK
      have d12:=hd 12 (by kernel_rfl)
      have d15:=hd 15 (by kernel_rfl)
      have d24:=hd 24 (by kernel_rfl)
      dsimp only at HK⊢;rw[d12,d15,d24] at HK⊢;clear hd d12 d15 d24;go_wp2_with fail
      exact K_at (Kz HK) (by kernel_rfl)
    ·intro us W hE hd
     try dsimp only
     have d12:=hd 12 (by decide)
     have d25:=hd 25 (by decide)
     simp only[List.drop_succ_cons,List.drop_zero]
     rw[d12,d25];have EW:=hid (E6.out.next (sg_undrew hE));have EW1:=hid (E16.out.next (sg_undrew hE));clear hd hE d12 d25;have hv:=hid (HBAD.out (by rw[HGD.out];exact HBF.out))
     go_wp2_with fail
     go_ret
     exact⟨by rw[hv.out];rfl,EW.out⟩
   by_cases ht0:t=0
   ·have HBF:Hid ((idB ⟨s,q,z⟩&&(decide (t=0)||lessB (r.ops.getD (t-1) rid0) ⟨s,q,z⟩))=true):=hid (by rw[HID.out,decide_eq_true ht0];rfl)
    have HTZ:Hid (decide (0<t)=false):=hid (decide_eq_false (by omega))
    clear ht0
    refine wp_region_flowG 26 ?FW3 (fun us=>?_) (by kernel_rfl) (by kernel_rfl) (fun a b=>Ext a b) Ext.refl (fun h1 h2=>h1.next h2) (fun i v W=>match i with
     | 0=>v=.pointer (some ⟨wo.heap.size,0,none⟩)
     | 1=>v=.int .i64 s
     | 2=>v=.pointer (some ⟨wo.heap.size,1,none⟩)
     | 3=>v=.int .i64 q
     | 4=>v=.bool true
     | 5=>v=.bool false
     | 6=>v=.bool false
     | 7=>v=.pointer (some ⟨wo.heap.size,2,none⟩)
     | 8=>v=.int .i64 z
     | 9=>v=.bool true
     | 10=>v=.bool false
     | 11=>v=.bool false
     | 12=>v=.bool false
     | 13=>v=.int .i64 (t:Int)
     | 14=>v=.bool false
     | 15=>v=.bool false
     | 16=>v=undef
     | 17=>v=undef
     | 18=>v=undef
     | 19=>v=undef
     | 20=>v=undef
     | 21=>v=undef
     | 22=>v=undef
     | 23=>v=undef
     | 24=>v=undef
     | 25=>v=.bool false
     | _=>True) ?_ ?_
    case refine_1 =>
     simp only[List.take_succ_cons,List.take_zero,flowAct,Nat.zero_add,Nat.reduceAdd,Act.put,List.setIfInBounds_toArray,List.set_cons_succ,List.set_cons_zero]
     rfl
    ·simp only[List.take_succ_cons,List.take_zero,flowStepsG]
     refine⟨?_,?_,?_,?_,?_,?_,?_,?_,?_,?_,?_,?_,?_,?_,?_,?_,?_,?_,?_,?_,?_,?_,?_,?_,?_,?_,trivial⟩
     ·intro us W K HE hd HK
      dsimp only at HK⊢;clear hd;go_wp2_with fail
      exact K_at (Kz HK) (by kernel_rfl)
     ·intro us W K HE hd HK
      have d0:=hd 0 (by kernel_rfl)
      have xk:W.cell? ⟨wo.heap.size,0,none⟩=some (.int .i64 s):=(B6.out.ext (sg_undrew HE.out)).cell 0
      dsimp only at HK⊢;rw[d0] at HK⊢;clear hd d0;go_wp2_with fail
      exact K_at (Kz HK) (by kernel_rfl)
     ·intro us W K HE hd HK
      dsimp only at HK⊢;clear hd;go_wp2_with fail
      exact K_at (Kz HK) (by kernel_rfl)
     ·intro us W K HE hd HK
      have d2:=hd 2 (by kernel_rfl)
      have xk:W.cell? ⟨wo.heap.size,1,none⟩=some (.int .i64 q):=(B6.out.ext (sg_undrew HE.out)).cell 1
      dsimp only at HK⊢;rw[d2] at HK⊢;clear hd d2;go_wp2_with fail
      exact K_at (Kz HK) (by kernel_rfl)
     ·intro us W K HE hd HK
      have d1:=hd 1 (by kernel_rfl)
      have d3:=hd 3 (by kernel_rfl)
      dsimp only at HK⊢;rw[d1,d3] at HK⊢;clear hd d1 d3;go_wp2_with ((go_at_call 47;(with_reducible refine (HNU.out W).mono ?_);rintro e w7 ⟨rfl,rfl⟩))
      exact K_at (Kz HK) (by kernel_rfl)
     ·intro us W K HE hd HK
      have d4:=hd 4 (by kernel_rfl)
      dsimp only at HK⊢;rw[d4] at HK⊢;clear hd d4;go_wp2_with fail
      exact K_at (Kz HK) (by kernel_rfl)
     ·intro us W K HE hd HK
      have d5:=hd 5 (by kernel_rfl)
      dsimp only at HK⊢;rw[d5] at HK⊢;clear hd d5;go_wp2_with fail
      exact K_at (Kz HK) (by kernel_rfl)
     ·intro us W K HE hd HK
      have d6:=hd 6 (by kernel_rfl)
      dsimp only at HK⊢;rw[d6] at HK⊢;clear hd d6;go_wp2_with fail
      exact K_at (Kz HK) (by kernel_rfl)
     ·intro us W K HE hd HK
      have d6:=hd 6 (by kernel_rfl)
      have d7:=hd 7 (by kernel_rfl)
      have xk:W.cell? ⟨wo.heap.size,2,none⟩=some (.int .i64 z):=(B6.out.ext (sg_undrew HE.out)).cell 2
      dsimp only at HK⊢;rw[d6,d7] at HK⊢;clear hd d6 d7;go_wp2_with fail
      exact K_at (Kz HK) (by kernel_rfl)
     ·intro us W K HE hd HK
      have d6:=hd 6 (by kernel_rfl)
      have d8:=hd 8 (by kernel_rfl)
      dsimp only at HK⊢;rw[d6,d8] at HK⊢;clear hd d6 d8;go_wp2_with ((go_at_call 48;(with_reducible refine (HWI.out W).mono ?_);rintro e w7 ⟨rfl,rfl⟩))
      exact K_at (Kz HK) (by kernel_rfl)
     ·intro us W K HE hd HK
      have d6:=hd 6 (by kernel_rfl)
      have d9:=hd 9 (by kernel_rfl)
      dsimp only at HK⊢;rw[d6,d9] at HK⊢;clear hd d6 d9;go_wp2_with fail
      exact K_at (Kz HK) (by kernel_rfl)
     ·intro us W K HE hd HK
      have d6:=hd 6 (by kernel_rfl)
      have d10:=hd 10 (by kernel_rfl)
      dsimp only at HK⊢;rw[d6,d10] at HK⊢;clear hd d6 d10;go_wp2_with fail
      exact K_at (Kz HK) (by kernel_rfl)
     ·intro us W K HE hd HK
      have d11:=hd 11 (by kernel_rfl)
      dsimp only at HK⊢;rw[d11] at HK⊢;clear hd d11;go_wp2_with fail
      exact K_at (Kz HK) (by kernel_rfl)
     ·intro us W K HE hd HK
      have d12:=hd 12 (by kernel_rfl)
      dsimp only at HK⊢;rw[d12] at HK⊢;clear hd d12;go_wp2_with fail
      exact K_at (Kz HK) (by kernel_rfl)
     ·intro us W K HE hd HK
      have d12:=hd 12 (by kernel_rfl)
      have d13:=hd 13 (by kernel_rfl)
      dsimp only at HK⊢;rw[d12,d13] at HK⊢;clear hd d12 d13;go_wp2_with fail
      exact K_at (HK.out (.bool (decide (0<t))) W (fun _ _=>by rw[HTZ.out]) (Ext.refl W)) (by kernel_rfl)
     ·intro us W K HE hd HK
      have d12:=hd 12 (by kernel_rfl)
      have d14:=hd 14 (by kernel_rfl)
      dsimp only at HK⊢;rw[d12,d14] at HK⊢;clear hd d12 d14;go_wp2_with fail
      exact K_at (Kz HK) (by kernel_rfl)
     ·intro us W K HE hd HK
      have d15:=hd 15 (by kernel_rfl)
      dsimp only at HK⊢;rw[d15] at HK⊢;clear hd d15;go_wp2_with fail
      exact K_at (Kz HK) (by kernel_rfl)
     ·intro us W K HE hd HK
      have d15:=hd 15 (by kernel_rfl)
      have d16:=hd 16 (by kernel_rfl)
      dsimp only at HK⊢;rw[d15,d16] at HK⊢;clear hd d15 d16;go_wp2_with fail
      exact K_at (Kz HK) (by kernel_rfl)
     ·intro us W K HE hd HK
      have d15:=hd 15 (by kernel_rfl)
      dsimp only at HK⊢;rw[d15] at HK⊢;clear hd d15;go_wp2_with fail
      exact K_at (Kz HK) (by kernel_rfl)
     ·intro us W K HE hd HK
      have d15:=hd 15 (by kernel_rfl)
      have d18:=hd 18 (by kernel_rfl)
      dsimp only at HK⊢;rw[d15,d18] at HK⊢;clear hd d15 d18;go_wp2_with fail
      exact K_at (Kz HK) (by kernel_rfl)
     ·intro us W K HE hd HK
      have d15:=hd 15 (by kernel_rfl)
      have d17:=hd 17 (by kernel_rfl)
      have d19:=hd 19 (by kernel_rfl)
      dsimp only at HK⊢;rw[d15,d17,d19] at HK⊢;clear hd d15 d17 d19;go_wp2_with fail
      exact K_at (Kz HK) (by kernel_rfl)
     ·intro us W K HE hd HK
      have d15:=hd 15 (by kernel_rfl)
      have d20:=hd 20 (by kernel_rfl)
      dsimp only at HK⊢;rw[d15,d20] at HK⊢;clear hd d15 d20;go_wp2_with fail
      exact K_at (Kz HK) (by kernel_rfl)
     ·intro us W K HE hd HK
      have d15:=hd 15 (by kernel_rfl)
      dsimp only at HK⊢;rw[d15] at HK⊢;clear hd d15;go_wp2_with fail
      exact K_at (Kz HK) (by kernel_rfl)
     ·intro us W K HE hd HK
      have d15:=hd 15 (by kernel_rfl)
      have d21:=hd 21 (by kernel_rfl)
      have d22:=hd 22 (by kernel_rfl)
      dsimp only at HK⊢;rw[d15,d21,d22] at HK⊢;clear hd d15 d21 d22;go_wp2_with fail
      exact K_at (Kz HK) (by kernel_rfl)
     ·intro us W K HE hd HK
      have d15:=hd 15 (by kernel_rfl)
      have d23:=hd 23 (by kernel_rfl)
      dsimp only at HK⊢;rw[d15,d23] at HK⊢;clear hd d15 d23;go_wp2_with fail
      exact K_at (Kz HK) (by kernel_rfl)
     ·intro us W K HE hd HK
      have d12:=hd 12 (by kernel_rfl)
      have d15:=hd 15 (by kernel_rfl)
      have d24:=hd 24 (by kernel_rfl)
      dsimp only at HK⊢;rw[d12,d15,d24] at HK⊢;clear hd d12 d15 d24;go_wp2_with fail
      exact K_at (Kz HK) (by kernel_rfl)
    ·intro us W hE hd
     try dsimp only
     have d12:=hd 12 (by decide)
     have d25:=hd 25 (by decide)
     simp only[List.drop_succ_cons,List.drop_zero]
     rw[d12,d25];have EW:=hid (E6.out.next (sg_undrew hE));have EW1:=hid (E16.out.next (sg_undrew hE));clear hd hE d12 d25;have hgo:=hid (HGO.out (by rw[HGD.out];exact HBF.out))
     go_wp2_with fail
     exact⟨⟨t+1,by omega,by go_num,EW1.out,hgo.out⟩,by simp [intOf];omega⟩
   ·obtain⟨u,hu⟩:∃u,t=u+1:=⟨t-1,by omega⟩
    obtain⟨⟨s1,q1,z1⟩,hy1⟩:∃y,y=r.ops.getD u rid0:=⟨_,rfl⟩
    have hy2:r.ops[u]?=some ⟨s1,q1,z1⟩:=by rw[hy1];exact getD_of (by rw[HLN.out];omega)
    have HPR:Hid (∀W,Ext w W→W.rangeAt g (p+u*3) [.int .i64 s1,.int .i64 q1,.int .i64 z1]):=hid (fun W hW=>ids_range (L:=r.ops) (x:=⟨s1,q1,z1⟩) (fun j u hu=>(hW.cell (p:=⟨g,p+j,none⟩) HG.out).trans (HCC.out j u hu)) hy2)
    have HOR:Hid (∀W,Calls Tryz.prog 49 #[.agg #[.int .i64 s1,.int .i64 q1,.int .i64 z1],.agg #[.int .i64 s,.int .i64 q,.int .i64 z]] W fun e w'=>e=.returned (.int .i64 (ordI ⟨s1,q1,z1⟩ ⟨s,q,z⟩))∧Ext W w'):=hid (fun W=>order_any ⟨s1,q1,z1⟩ ⟨s,q,z⟩ W)
    have HLE:=hid (ordI_less ⟨s1,q1,z1⟩ ⟨s,q,z⟩);have HEQ:Hid ((idB ⟨s,q,z⟩&&(decide (t=0)||lessB (r.ops.getD (t-1) rid0) ⟨s,q,z⟩))=lessB ⟨s1,q1,z1⟩ ⟨s,q,z⟩):=hid (by rw[HID.out,decide_eq_false ht0,hu,Nat.add_sub_cancel,←hy1];rfl)
    generalize ordI ⟨s1,q1,z1⟩ ⟨s,q,z⟩=vo at *
    obtain⟨gb,hgb⟩:∃x,x=decide (0≤vo):=⟨_,rfl⟩
    have HB0:Hid (gb=false→(idB ⟨s,q,z⟩&&(decide (t=0)||lessB (r.ops.getD (t-1) rid0) ⟨s,q,z⟩))=true):=hid (fun h=>by
     rw[HEQ.out,HLE.out];rw[h] at hgb;have:=of_decide_eq_false hgb.symm
     exact decide_eq_true (by omega))
    have HB1:Hid (gb=true→(idB ⟨s,q,z⟩&&(decide (t=0)||lessB (r.ops.getD (t-1) rid0) ⟨s,q,z⟩))=false):=hid (fun h=>by
     rw[HEQ.out,HLE.out];rw[h] at hgb;have:=of_decide_eq_true hgb.symm
     exact decide_eq_false (by omega))
    have hge:decide (0≤vo)=gb:=hgb.symm;have HTZ:Hid (decide (0<t)=true):=hid (decide_eq_true (by omega))
    have hun:((t:Int)-1).toNat=u:=by omega
    have ht1:1≤t:=by omega
    clear hu hy1 hy2 hgb ht0
    refine wp_region_flowG 26 ?FW4 (fun us=>?_) (by kernel_rfl) (by kernel_rfl) (fun a b=>Ext a b) Ext.refl (fun h1 h2=>h1.next h2) (fun i v W=>match i with
     | 0=>v=.pointer (some ⟨wo.heap.size,0,none⟩)
     | 1=>v=.int .i64 s
     | 2=>v=.pointer (some ⟨wo.heap.size,1,none⟩)
     | 3=>v=.int .i64 q
     | 4=>v=.bool true
     | 5=>v=.bool false
     | 6=>v=.bool false
     | 7=>v=.pointer (some ⟨wo.heap.size,2,none⟩)
     | 8=>v=.int .i64 z
     | 9=>v=.bool true
     | 10=>v=.bool false
     | 11=>v=.bool false
     | 12=>v=.bool false
     | 13=>v=.int .i64 (t:Int)
     | 14=>v=.bool true
     | 15=>v=.bool true
     | 16=>v=.pointer (some ⟨w.heap.size,4,none⟩)
     | 17=>v=.slice (some ⟨g,p,none⟩) n c
     | 18=>v=.int .i64 (t:Int)
     | 19=>v=.int .i64 ((t:Int)-1)
     | 20=>v=.pointer (some ⟨g,p+u*3,none⟩)
     | 21=>v=.agg #[.int .i64 s1,.int .i64 q1,.int .i64 z1]
     | 22=>v=.agg #[.int .i64 s,.int .i64 q,.int .i64 z]
     | 23=>v=.int .i64 vo
     | 24=>v=.bool gb
     | 25=>v=.bool gb
     | _=>True) ?_ ?_
    case refine_1 =>
     simp only[List.take_succ_cons,List.take_zero,flowAct,Nat.zero_add,Nat.reduceAdd,Act.put,List.setIfInBounds_toArray,List.set_cons_succ,List.set_cons_zero]
     rfl
    ·simp only[List.take_succ_cons,List.take_zero,flowStepsG]
     refine⟨?_,?_,?_,?_,?_,?_,?_,?_,?_,?_,?_,?_,?_,?_,?_,?_,?_,?_,?_,?_,?_,?_,?_,?_,?_,?_,trivial⟩
     ·intro us W K HE hd HK
      dsimp only at HK⊢;clear hd;go_wp2_with fail
      exact K_at (Kz HK) (by kernel_rfl)
     ·intro us W K HE hd HK
      have d0:=hd 0 (by kernel_rfl)
      have xk:W.cell? ⟨wo.heap.size,0,none⟩=some (.int .i64 s):=(B6.out.ext (sg_undrew HE.out)).cell 0
      dsimp only at HK⊢;rw[d0] at HK⊢;clear hd d0;go_wp2_with fail
      exact K_at (Kz HK) (by kernel_rfl)
     ·intro us W K HE hd HK
      dsimp only at HK⊢;clear hd;go_wp2_with fail
      exact K_at (Kz HK) (by kernel_rfl)
     ·intro us W K HE hd HK
      have d2:=hd 2 (by kernel_rfl)
      have xk:W.cell? ⟨wo.heap.size,1,none⟩=some (.int .i64 q):=(B6.out.ext (sg_undrew HE.out)).cell 1
      dsimp only at HK⊢;rw[d2] at HK⊢;clear hd d2;go_wp2_with fail
      exact K_at (Kz HK) (by kernel_rfl)
     ·intro us W K HE hd HK
      have d1:=hd 1 (by kernel_rfl)
      have d3:=hd 3 (by kernel_rfl)
      dsimp only at HK⊢;rw[d1,d3] at HK⊢;clear hd d1 d3;go_wp2_with ((go_at_call 47;(with_reducible refine (HNU.out W).mono ?_);rintro e w7 ⟨rfl,rfl⟩))
      exact K_at (Kz HK) (by kernel_rfl)
     ·intro us W K HE hd HK
      have d4:=hd 4 (by kernel_rfl)
      dsimp only at HK⊢;rw[d4] at HK⊢;clear hd d4;go_wp2_with fail
      exact K_at (Kz HK) (by kernel_rfl)
     ·intro us W K HE hd HK
      have d5:=hd 5 (by kernel_rfl)
      dsimp only at HK⊢;rw[d5] at HK⊢;clear hd d5;go_wp2_with fail
      exact K_at (Kz HK) (by kernel_rfl)
     ·intro us W K HE hd HK
      have d6:=hd 6 (by kernel_rfl)
      dsimp only at HK⊢;rw[d6] at HK⊢;clear hd d6;go_wp2_with fail
      exact K_at (Kz HK) (by kernel_rfl)
     ·intro us W K HE hd HK
      have d6:=hd 6 (by kernel_rfl)
      have d7:=hd 7 (by kernel_rfl)
      have xk:W.cell? ⟨wo.heap.size,2,none⟩=some (.int .i64 z):=(B6.out.ext (sg_undrew HE.out)).cell 2
      dsimp only at HK⊢;rw[d6,d7] at HK⊢;clear hd d6 d7;go_wp2_with fail
      exact K_at (Kz HK) (by kernel_rfl)
     ·intro us W K HE hd HK
      have d6:=hd 6 (by kernel_rfl)
      have d8:=hd 8 (by kernel_rfl)
      dsimp only at HK⊢;rw[d6,d8] at HK⊢;clear hd d6 d8;go_wp2_with ((go_at_call 48;(with_reducible refine (HWI.out W).mono ?_);rintro e w7 ⟨rfl,rfl⟩))
      exact K_at (Kz HK) (by kernel_rfl)
     ·intro us W K HE hd HK
      have d6:=hd 6 (by kernel_rfl)
      have d9:=hd 9 (by kernel_rfl)
      dsimp only at HK⊢;rw[d6,d9] at HK⊢;clear hd d6 d9;go_wp2_with fail
      exact K_at (Kz HK) (by kernel_rfl)
     ·intro us W K HE hd HK
      have d6:=hd 6 (by kernel_rfl)
      have d10:=hd 10 (by kernel_rfl)
      dsimp only at HK⊢;rw[d6,d10] at HK⊢;clear hd d6 d10;go_wp2_with fail
      exact K_at (Kz HK) (by kernel_rfl)
     ·intro us W K HE hd HK
      have d11:=hd 11 (by kernel_rfl)
      dsimp only at HK⊢;rw[d11] at HK⊢;clear hd d11;go_wp2_with fail
      exact K_at (Kz HK) (by kernel_rfl)
     ·intro us W K HE hd HK
      have d12:=hd 12 (by kernel_rfl)
      dsimp only at HK⊢;rw[d12] at HK⊢;clear hd d12;go_wp2_with fail
      exact K_at (Kz HK) (by kernel_rfl)
     ·intro us W K HE hd HK
      have d12:=hd 12 (by kernel_rfl)
      have d13:=hd 13 (by kernel_rfl)
      dsimp only at HK⊢;rw[d12,d13] at HK⊢;clear hd d12 d13;go_wp2_with fail
      exact K_at (HK.out (.bool (decide (0<t))) W (fun _ _=>by rw[HTZ.out]) (Ext.refl W)) (by kernel_rfl)
     ·intro us W K HE hd HK
      have d12:=hd 12 (by kernel_rfl)
      have d14:=hd 14 (by kernel_rfl)
      dsimp only at HK⊢;rw[d12,d14] at HK⊢;clear hd d12 d14;go_wp2_with fail
      exact K_at (Kz HK) (by kernel_rfl)
     ·intro us W K HE hd HK
      have d15:=hd 15 (by kernel_rfl)
      dsimp only at HK⊢;rw[d15] at HK⊢;clear hd d15;go_wp2_with fail
      exact K_at (Kz HK) (by kernel_rfl)
     ·intro us W K HE hd HK
      have d15:=hd 15 (by kernel_rfl)
      have d16:=hd 16 (by kernel_rfl)
      have xk:W.cell? ⟨w.heap.size,4,none⟩=some (.slice (some ⟨g,p,none⟩) n c):=(BR.out.ext (E16.out.next (sg_undrew HE.out))).cell 4
      dsimp only at HK⊢;rw[d15,d16] at HK⊢;clear hd d15 d16;go_wp2_with fail
      exact K_at (Kz HK) (by kernel_rfl)
     ·intro us W K HE hd HK
      have d15:=hd 15 (by kernel_rfl)
      dsimp only at HK⊢;rw[d15] at HK⊢;clear hd d15;go_wp2_with fail
      exact K_at (Kz HK) (by kernel_rfl)
     ·intro us W K HE hd HK
      have d15:=hd 15 (by kernel_rfl)
      have d18:=hd 18 (by kernel_rfl)
      dsimp only at HK⊢;rw[d15,d18] at HK⊢;clear hd d15 d18;go_wp2_with fail
      exact K_at (Kz HK) (by kernel_rfl)
     ·intro us W K HE hd HK
      have d15:=hd 15 (by kernel_rfl)
      have d17:=hd 17 (by kernel_rfl)
      have d19:=hd 19 (by kernel_rfl)
      dsimp only at HK⊢;rw[d15,d17,d19] at HK⊢;clear hd d15 d17 d19;go_wp2_with fail
      exact K_at (Kz HK) (by kernel_rfl)
     ·intro us W K HE hd HK
      have d15:=hd 15 (by kernel_rfl)
      have d20:=hd 20 (by kernel_rfl)
      have HPW:=hid (HPR.out W (E6.out.next (sg_undrew HE.out)));dsimp only at HK⊢;rw[d15,d20] at HK⊢;clear hd d15 d20;go_wp2_with ((refine wpList_midw (by rfl) 68 (.tmp 56) rfl g (p+u*3) rfl [.int .i64 s1,.int .i64 q1,.int .i64 z1] HPW.out Tryz.underlying68 rfl (info_id.trans rfl) ?_))
      exact K_at (Kz HK) (by kernel_rfl)
     ·intro us W K HE hd HK
      have d15:=hd 15 (by kernel_rfl)
      have BW:=hid (B6.out.ext (sg_undrew HE.out));dsimp only at HK⊢;rw[d15] at HK⊢;clear hd d15;go_wp2_with ((refine wpList_load_want (by rfl) 68 (.tmp 4) rfl wo.heap.size (by kernel_rfl) BW.out Tryz.underlying68 rfl (info_id.trans rfl) ?_))
      exact K_at (Kz HK) (by kernel_rfl)
     ·intro us W K HE hd HK
      have d15:=hd 15 (by kernel_rfl)
      have d21:=hd 21 (by kernel_rfl)
      have d22:=hd 22 (by kernel_rfl)
      dsimp only at HK⊢;rw[d15,d21,d22] at HK⊢;clear hd d15 d21 d22;go_wp2_with ((go_at_call 49;(with_reducible refine (HOR.out W).mono ?_);rintro e w7 ⟨rfl,hB7⟩))
      exact K_at (HK.out (.int .i64 vo) w7 (fun _ _=>rfl) hB7) (by kernel_rfl)
     ·intro us W K HE hd HK
      have d15:=hd 15 (by kernel_rfl)
      have d23:=hd 23 (by kernel_rfl)
      dsimp only at HK⊢;rw[d15,d23] at HK⊢;clear hd d15 d23;go_wp2_with fail
      exact K_at (Kz HK) (by kernel_rfl)
     ·intro us W K HE hd HK
      have d12:=hd 12 (by kernel_rfl)
      have d15:=hd 15 (by kernel_rfl)
      have d24:=hd 24 (by kernel_rfl)
      dsimp only at HK⊢;rw[d12,d15,d24] at HK⊢;clear hd d12 d15 d24;go_wp2_with fail
      exact K_at (Kz HK) (by kernel_rfl)
    ·intro us W hE hd
     try dsimp only
     have d12:=hd 12 (by decide)
     have d25:=hd 25 (by decide)
     simp only[List.drop_succ_cons,List.drop_zero]
     rw[d12,d25];have EW:=hid (E6.out.next (sg_undrew hE));have EW1:=hid (E16.out.next (sg_undrew hE));clear hd hE d12 d25
     cases gb
     ·have HBF:=hid (HB0.out rfl)
      have hgo:=hid (HGO.out (by rw[HGD.out];exact HBF.out))
      go_wp2_with fail
      exact⟨⟨t+1,by omega,by go_num,EW1.out,hgo.out⟩,by simp [intOf];omega⟩
     ·have HBF:=hid (HB1.out rfl)
      have hv:=hid (HBAD.out (by rw[HGD.out];exact HBF.out))
      go_wp2_with fail
      go_ret
      exact⟨by rw[hv.out];rfl,EW.out⟩
  ·obtain rfl:t=n:=by omega
   have hv:=hid (HVG.out (okB_of (fun j hj=>HZ.out j (by rw[HLN.out] at hj;exact hj))))
   go_wp2_with fail
   go_ret
   exact⟨by rw[hv.out];rfl,E1.out.next EO.out⟩
end
end Go.Proofs.YtjeecfjeooehhaaGreatDoor