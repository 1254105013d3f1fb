/- Encode of a review, and whether two reviews are the same. Conditions: as for encode. -/
import Derived.Test.YtjeecfjeooehhaaGreatDoorM8
import Derived.Test.YtjeecfjeooehhaaGreatDoorM9
import Derived.Test.YtjeecfjeooehhaaGreatDoorM4
import Derived.RangeFuncBox
import Derived.RangeFuncLeaves
import Derived.RangeFuncCalls
import Derived.RangeFuncFrom
import Derived.OwnWalkIn
import Derived.TacticsInMore
import Derived.LoopNIn
import Derived.LoopIn
import Derived.OrdersIn
import Derived.Test.YtjeecfjeooehhaaGreatDoorM1
import Derived.Stop.BytesEq
import Derived.Deep.RegionHeld3
set_option linter.unusedSimpArgs false
set_option linter.unusedVariables false
set_option maxHeartbeats 16000000
set_option maxRecDepth 100000
namespace Go.Proofs.YtjeecfjeooehhaaGreatDoor
open Go.RowKit
open Lib (hid)
section
attribute [local go_sem ↓] wp_at_zero wp_at_succ
def encE (r:Rev):Int:=if validE r=0 then (if 1200<r.sl.size then 4 else 0) else validE r
def encX (r:Rev):List Int:=if encE r=0 then encR r else []
theorem okB_id {L:List Rid}(h:okB L=true){x:Rid}(hx:x∈L):idB x=true:=by
 obtain⟨i,hi,rfl⟩:=List.getElem_of_mem hx;have:=List.all_eq_true.1 h i (List.mem_range.2 hi)
 unfold goodB at this;rw[Bool.and_eq_true] at this;have h2:=this.1;rw[List.getD_eq_getElem?_getD,List.getElem?_eq_getElem hi] at h2
 exact h2
theorem validE_zero {r:Rev}(h:validE r=0):(0≤r.shop∧r.shop≤7∧1≤r.seq∧r.seq≤16∧1≤r.day∧r.day≤1048576)∧r.ops.length≤32∧0<r.ops.length∧okB r.ops=true:=by
 unfold validE at h;split at h
 ·cases h
 ·rename_i h1
  split at h
  ·cases h
  ·split at h
   ·cases h
   ·split at h
    ·rename_i h2 h3 h4
     refine⟨?_,by omega,by omega,h4⟩
     have h5:(rnumB r.shop r.seq&&winB r.day 1 1048576)=true:=by
      cases hb:(rnumB r.shop r.seq&&winB r.day 1 1048576) with
      | true=>rfl
      | false=>exact absurd hb h1
     unfold rnumB winB at h5;simp only[Bool.and_eq_true,decide_eq_true_eq] at h5
     omega
    ·cases h
theorem revW_of {r:Rev}(h:encE r=0):RevW r:=by
 unfold encE at h;split at h
 ·rename_i hv
  split at h
  ·cases h
  ·rename_i hs
   obtain⟨⟨a1,a2,a3,a4,a5,a6⟩,b1,b2,b3⟩:=validE_zero hv;refine⟨⟨by omega,by omega⟩,⟨by omega,by omega⟩,⟨by omega,by omega⟩,fun x hx=>?_,by omega,by omega⟩
   unfold opsI at hx;obtain⟨y,hy,hxy⟩:=List.mem_flatMap.1 hx;have:=(idB_iff y).1 (okB_id b3 hy)
   unfold opI at hxy;simp only[List.mem_cons,List.not_mem_nil,or_false] at hxy
   rcases hxy with rfl|rfl|rfl<;>omega
 ·rename_i hv
  exact absurd h hv
theorem encodeX_any (r:Rev)(A:Option Addr)(n c:Nat)(w:World)(hr:RevV w r A n c):Calls Tryz.prog 8 #[.agg (revC r A n c).toArray] w fun e w'=>(∃A' c',e=.returned (.tuple #[.slice A' (encX r).length c',.int .i64 (encE r)])∧w'.ownsRow w.heap.size 5 1 (.slice A' (encX r).length c') (encX r).length (u8s (encX r)))∧Ext w w':=by
 have HR:=hid hr;have HCK:Hid ((revC r A n c).length=22):=hid (revC_len _ _ _ _ hr.mean);obtain⟨V,hV⟩:∃v,v=validE r:=⟨_,rfl⟩
 have HVV:=hid hV;clear hr hV;go_enter Tryz.func8,Tryz.ntmps8
 go_upto_region 1 with fail
 obtain⟨w1,hw1⟩:∃x,x=w.alloc (.cells (revC r A n c).toArray 28):=⟨_,rfl⟩
 change Code.wp _ _ _ _ (w.alloc (.cells (revC r A n c).toArray 28))
 rw[←hw1];have E1:Hid (Ext w w1):=hid (by rw[hw1];exact (Ext.refl w).alloc _)
 have BR:Hid (Blk w1 w.heap.size 28 (revC r A n c)):=hid (by rw[hw1];exact Blk.fresh' _ _ _ _ _ rfl rfl)
 have HV1:Hid (Calls Tryz.prog 23 #[.agg (revC r A n c).toArray] w1 fun e w'=>e=.returned (.int .i64 V)∧Ext w1 w'):=hid (by rw[HVV.out];exact valid_any r A n c w1 (HR.out.ext E1.out))
 clear hw1;by_cases hv0:V=0
 ·subst hv0
  by_cases hs:1200<r.sl.size
  ·have HE:Hid (encE r=4):=hid (by unfold encE;rw[←HVV.out,if_pos rfl,if_pos hs])
   have HX:Hid (encX r=[]):=hid (by unfold encX;rw[if_neg (by rw[HE.out];decide)])
   have hs1:decide (1200<(r.sl.size:Int))=true:=decide_eq_true (by omega)
   go_wp2_with ((first
  | (refine wpList_load_blk rfl 28 (.tmp 1) rfl w.heap.size (by kernel_rfl) BR.out Tryz.underlying28 rfl (info_rev.trans (congrArg some HCK.out.symm)) ?_)
  | (go_at_call 23;(with_reducible refine (HV1.out).mono ?_);rintro e w2 ⟨rfl,hE2⟩;have X2:Hid (Ext w w2):=hid (E1.out.next hE2);have BR:=hid (BR.out.ext hE2);have VR2:=hid (HR.out.ext X2.out);have cc21:w2.cell? ⟨w.heap.size,21,none⟩=some (.string r.sl):=(BR.out.cell 21).trans (revC_21 _ _ _ _ HR.out.mean);clear hE2)
  | (go_at_call 31;(with_reducible refine (encode_any r A n c w2 VR2.out HW.out).mono ?_);rintro e w3 ⟨⟨A3,c3,rfl,ho⟩,hE3⟩)))
   go_ret2
   exact⟨⟨none,0,by rw[HX.out,HE.out];rfl,by rw[HX.out];exact World.ownsRow_nil _ _ _ _⟩,X2.out⟩
  ·have HE:Hid (encE r=0):=hid (by unfold encE;rw[←HVV.out,if_pos rfl,if_neg hs])
   have HX:Hid (encX r=encR r):=hid (by unfold encX;rw[if_pos HE.out])
   have HW:Hid (RevW r):=hid (revW_of HE.out);have hs1:decide (1200<(r.sl.size:Int))=false:=decide_eq_false (by omega)
   go_wp2_with ((first
  | (refine wpList_load_blk rfl 28 (.tmp 1) rfl w.heap.size (by kernel_rfl) BR.out Tryz.underlying28 rfl (info_rev.trans (congrArg some HCK.out.symm)) ?_)
  | (go_at_call 23;(with_reducible refine (HV1.out).mono ?_);rintro e w2 ⟨rfl,hE2⟩;have X2:Hid (Ext w w2):=hid (E1.out.next hE2);have BR:=hid (BR.out.ext hE2);have VR2:=hid (HR.out.ext X2.out);have cc21:w2.cell? ⟨w.heap.size,21,none⟩=some (.string r.sl):=(BR.out.cell 21).trans (revC_21 _ _ _ _ HR.out.mean);clear hE2)
  | (go_at_call 31;(with_reducible refine (encode_any r A n c w2 VR2.out HW.out).mono ?_);rintro e w3 ⟨⟨A3,c3,rfl,ho⟩,hE3⟩)))
   go_ret2
   exact⟨⟨A3,c3,by rw[HX.out,HE.out];rfl,by rw[HX.out];exact own_lo ho X2.out.size⟩,X2.out.next hE3⟩
 ·have HE:Hid (encE r=V):=hid (by unfold encE;rw[←HVV.out,if_neg hv0])
  have HX:Hid (encX r=[]):=hid (by unfold encX;rw[if_neg (by rw[HE.out];exact hv0)])
  have hne:(V==0)=false:=by rw[beq_eq_false_iff_ne];exact hv0
  clear hv0;go_wp2_with ((first
  | (refine wpList_load_blk rfl 28 (.tmp 1) rfl w.heap.size (by kernel_rfl) BR.out Tryz.underlying28 rfl (info_rev.trans (congrArg some HCK.out.symm)) ?_)
  | (go_at_call 23;(with_reducible refine (HV1.out).mono ?_);rintro e w2 ⟨rfl,hE2⟩;have X2:Hid (Ext w w2):=hid (E1.out.next hE2);have BR:=hid (BR.out.ext hE2);have VR2:=hid (HR.out.ext X2.out);have cc21:w2.cell? ⟨w.heap.size,21,none⟩=some (.string r.sl):=(BR.out.cell 21).trans (revC_21 _ _ _ _ HR.out.mean);clear hE2)
  | (go_at_call 31;(with_reducible refine (encode_any r A n c w2 VR2.out HW.out).mono ?_);rintro e w3 ⟨⟨A3,c3,rfl,ho⟩,hE3⟩)))
  go_ret2
  exact⟨⟨none,0,by rw[HX.out,HE.out];rfl,by rw[HX.out];exact World.ownsRow_nil _ _ _ _⟩,X2.out⟩
theorem encR_le {w:World}{A:Option Addr}{n c:Nat}(r:Rev)(hr:RevV w r A n c)(hw:RevW r):(encR r).length≤1000030000:=by
 have hn:n≤1000:=by rw[←hr.len];exact hw.many
 have q1:=encL_le [r.shop,r.seq,r.day] (fun x hx=>by
  simp only[List.mem_cons,List.not_mem_nil,or_false] at hx
  rcases hx with rfl|rfl|rfl
  ·exact hw.shop
  ·exact hw.seq
  ·exact hw.day) (by simp)
 have q2:=encInt_le9 (wdI r.wd) (by unfold wdI;split<;>decide) (by unfold wdI;split<;>decide)
 have q3:=encL_le _ hw.ops (by rw[opsI_len,hr.len];omega)
 have q4:(encL idD [r.mean]).length≤25:=by
  have h:=encInt_le9 1 (by decide) (by decide)
  unfold encL idD;simp only[List.length_append,List.flatMap_cons,List.flatMap_nil,List.length_nil,hr.mean,List.length_cons]
  have:(((0+1:Nat):Int))=1:=rfl
  rw[this];omega
 have q5:(encB r.sl).length≤9+r.sl.size:=by
  have h:=encInt_le9 (r.sl.size:Int) (by omega) (by have:=hw.sls;omega)
  unfold encB;rw[List.length_append,bys_length];omega
 rw[opsI_len,hr.len] at q3;simp only[List.length_cons,List.length_nil] at q1
 have:=hw.sls
 unfold encR;simp only[List.length_append]
 omega
theorem rsame_any (r s:Rev)(A B:Option Addr)(n c m d:Nat)(w:World)(hr:RevV w r A n c)(hw:RevW r)(hs:RevV w s B m d)(hx:RevW s):Calls Tryz.prog 11 #[.agg (revC r A n c).toArray,.agg (revC s B m d).toArray] w fun e w'=>e=.returned (.bool (decide (encR r=encR s)))∧Ext w w':=by
 have HR:=hid hr;have HS:=hid hs;have HW:=hid hw;have HX:=hid hx;have HCR:Hid ((revC r A n c).length=22):=hid (revC_len _ _ _ _ hr.mean);have HCS:Hid ((revC s B m d).length=22):=hid (revC_len _ _ _ _ hs.mean);obtain⟨k1,hk1⟩:∃k,k=(encR r).length:=⟨_,rfl⟩
 obtain⟨k2,hk2⟩:∃k,k=(encR s).length:=⟨_,rfl⟩
 have HB1:Hid (∀W,Ext w W→Calls Tryz.prog 35 #[.agg (revC r A n c).toArray] W fun e w'=>(∃A' c',e=.returned (.slice A' k1 c')∧Rd w' w'.heap.size A' k1 (u8s (encR r)))∧Ext W w'):=hid (fun W hW=>(bytes_any r A n c W (hr.ext hW) hw).mono (by
  rintro e w' ⟨⟨A',c',rfl,ho⟩,hE⟩
  rw[←hk1] at ho⊢;exact⟨⟨A',c',rfl,Rd.of_own ho⟩,hE⟩))
 have HB2:Hid (∀W,Ext w W→Calls Tryz.prog 35 #[.agg (revC s B m d).toArray] W fun e w'=>(∃A' c',e=.returned (.slice A' k2 c')∧Rd w' w'.heap.size A' k2 (u8s (encR s)))∧Ext W w'):=hid (fun W hW=>(bytes_any s B m d W (hs.ext hW) hx).mono (by
  rintro e w' ⟨⟨A',c',rfl,ho⟩,hE⟩
  rw[←hk2] at ho⊢;exact⟨⟨A',c',rfl,Rd.of_own ho⟩,hE⟩))
 have hkb:k1≤1000030000:=by rw[hk1];exact encR_le r hr hw
 have HKB:=hid hkb;clear hr hw hs hx hk1 hk2 hkb;go_enter Tryz.func11,Tryz.ntmps11
 go_upto_region 1 with fail
 obtain⟨w1,hw1⟩:∃x,x=(w.alloc (.cells (revC r A n c).toArray 28)).alloc (.cells (revC s B m d).toArray 28):=⟨_,rfl⟩
 change Code.wp _ _ _ _ ((w.alloc (.cells (revC r A n c).toArray 28)).alloc (.cells (revC s B m d).toArray 28))
 rw[←hw1];have E1:Hid (Ext w w1):=hid (by rw[hw1];exact ((Ext.refl w).alloc _).alloc _)
 have BR:Hid (Blk w1 w.heap.size 28 (revC r A n c)):=hid (by rw[hw1];exact (Blk.fresh' _ _ _ _ _ rfl rfl).alloc _)
 have BS:Hid (Blk w1 (w.heap.size+1) 28 (revC s B m d)):=hid (by rw[hw1];exact Blk.fresh' _ _ _ _ _ rfl (by simp))
 clear hw1
 refine wp_region_flowG 5 ?FW1 (fun us=>?_) (by kernel_rfl) (by kernel_rfl) (fun a b=>Ext a b) Ext.refl (fun h1 h2=>h1.next h2) (fun i v W=>match i with
  | 0=>v=.agg (revC r A n c).toArray
  | 1=>∃A3 c3,v=.slice A3 k1 c3∧Rd W W.heap.size A3 k1 (u8s (encR r))
  | 2=>v=.agg (revC s B m d).toArray
  | 3=>∃A3 c3,v=.slice A3 k2 c3∧Rd W W.heap.size A3 k2 (u8s (encR s))
  | 4=>v=.bool (decide (encR r=encR s))
  | _=>True) ?_ ?_
 case refine_1 =>
  simp only[List.take_succ_cons,List.take_zero,flowAct,Nat.zero_add,Nat.reduceAdd,Act.put,List.setIfInBounds_toArray,List.set_cons_succ,List.set_cons_zero]
  rfl
 ·simp only[List.take_succ_cons,List.take_zero,flowStepsG]
  refine⟨?_,?_,?_,?_,?_,trivial⟩
  ·intro us W K HE hd HK
   have BW:=hid (BR.out.ext (sg_undrew HE.out));dsimp only at HK⊢;clear hd;go_wp2_with ((refine wpList_load_want (by rfl) 28 (.tmp 2) rfl w.heap.size (by kernel_rfl) BW.out Tryz.underlying28 rfl (info_rev.trans (congrArg some HCR.out.symm)) ?_))
   exact K_at (Kz HK) (by kernel_rfl)
  ·intro us W K HE hd HK
   have d0:=hd 0 (by kernel_rfl)
   have EXW:=hid (E1.out.next (sg_undrew HE.out));dsimp only at HK⊢;rw[d0] at HK⊢;clear hd d0;go_wp2_with ((go_at_call 35;(with_reducible refine (HB1.out W EXW.out).mono ?_);rintro e w7 ⟨⟨A3,c3,rfl,hq3⟩,hB7⟩))
   exact K_at (HK.out (.slice A3 k1 c3) w7 (fun W2 hW2=>⟨A3,c3,rfl,hq3.ext' hW2⟩) hB7) (by kernel_rfl)
  ·intro us W K HE hd HK
   have BW:=hid (BS.out.ext (sg_undrew HE.out));dsimp only at HK⊢;clear hd;go_wp2_with ((refine wpList_load_want (by rfl) 28 (.tmp 3) rfl (w.heap.size+1) (by kernel_rfl) BW.out Tryz.underlying28 rfl (info_rev.trans (congrArg some HCS.out.symm)) ?_))
   exact K_at (Kz HK) (by kernel_rfl)
  ·intro us W K HE hd HK
   have d2:=hd 2 (by kernel_rfl)
   have EXW:=hid (E1.out.next (sg_undrew HE.out));dsimp only at HK⊢;rw[d2] at HK⊢;clear hd d2;go_wp2_with ((go_at_call 35;(with_reducible refine (HB2.out W EXW.out).mono ?_);rintro e w7 ⟨⟨A3,c3,rfl,hq3⟩,hB7⟩))
   exact K_at (HK.out (.slice A3 k2 c3) w7 (fun W2 hW2=>⟨A3,c3,rfl,hq3.ext' hW2⟩) hB7) (by kernel_rfl)
  ·intro us W K HE hd HK
   obtain⟨P1,p1,d1,hq1⟩:=hd 1 (by kernel_rfl)
   obtain⟨P3,p3,d3,hq3⟩:=hd 3 (by kernel_rfl)
   have HQ1:Hid (Rd W W.heap.size P1 k1 ((encR r).map (Value.int .u8))):=hid hq1;have HQ3:Hid (Rd W W.heap.size P3 k2 ((encR s).map (Value.int .u8))):=hid hq3;clear hq1 hq3;dsimp only at HK⊢;rw[d1,d3] at HK⊢;clear hd d1 d3;go_wp2_with ((go_at_call 34;(with_reducible refine (same_any (encR r) (encR s) P1 P3 k1 p1 k2 p3 W HQ1.out HQ3.out (Nat.le_trans HKB.out (by decide))).mono ?_);rintro e w7 ⟨rfl,hB7⟩))
   exact K_at (HK.out (.bool (decide (encR r=encR s))) w7 (fun _ _=>rfl) (Drew.below hB7 _)) (by kernel_rfl)
 ·intro us W hE hd
  try dsimp only
  have d4:=hd 4 (by decide)
  simp only[List.drop_succ_cons,List.drop_zero]
  rw[d4];have EW:=hid (E1.out.next (sg_undrew hE));clear hd hE d4;go_wp2_with fail
  go_ret
  exact⟨rfl,EW.out⟩
end
section
section
variable {P:Program} {Q:Exit→Act→World→Prop}
def noDefer (o:Oper):Bool:=match o.op with
 | .defer _=>false
 | _=>true
theorem oper_in (l n:Nat){o:Oper}{a:Act}{w:World}{K:Act→World→Prop}(hd:noDefer o=true)(h:o.wp P a w K Q):o.wpIn (Fence.wide.inRound l) n P a w K Q:=by
 unfold Oper.wpIn;refine⟨fun _ _=>trivial,?_⟩
 show o.uponIn (Fence.wide.inRound l) n P a K Q ((o.semAt (some l) a.eval).run P w)
 rw[Oper.semAt_some l _ o (fun c hc=>by unfold noDefer at hd;rw[hc] at hd;cases hd)]
 unfold Oper.wp at h;generalize hx:(execOp a.eval o).run P w=r at *
 cases r with
 | ok x w' =>
  cases x <;>
   first
    | exact h
    | exact⟨fun h=>(by cases h),CallsIn.mono (callsIn_wide.2 h) (fun e w'' he=>by cases e<;>exact he)⟩
    | exact⟨fun h=>(by cases h),fun c cs _=>let ⟨v,w',r,s⟩:=h c cs;⟨v,w',r,stepsIn_wide.2 s⟩⟩
    | exact h.elim
 | halt x w'=>cases x<;>exact h
theorem wpOp_in {ops:Array Oper}(l n:Nat){i:Nat}{a:Act}{w:World}{K K':Act→World→Prop}(hd:∀o,ops[i]?=some o→noDefer o=true)(hQ:¬LetsOut Q)(hK:∀a w,K a w→K' a w)(h:wpOp P ops Q i K a w):wpOpIn (Fence.wide.inRound l) n P ops Q i K' a w:=by
 unfold wpOp at h;unfold wpOpIn;split
 ·rename_i ho;simp only[ho] at h;exact hK _ _ h
 ·rename_i o ho
  simp only[ho] at h
  split
  ·rename_i hw
   rw[if_pos hw] at h;rcases h with h|h
   ·exact oper_in l n (hd o ho) (Oper.wp_mono hK h)
   ·exact absurd h.2 hQ
  ·rename_i hw
   rw[if_neg hw] at h;exact⟨fun _ _=>trivial,hK _ _ h⟩
theorem wpAny_in {ops:Array Oper}{md:Region.Mode}(l n:Nat)(hd:∀(i:Nat) o,ops[i]?=some o→noDefer o=true)(hQ:¬LetsOut Q):∀(fuel:Nat) (listed:Array Bool) (a:Act) (w:World),wpAny P md ops Q fuel listed a w→wpAnyIn (Fence.wide.inRound l) n P md ops Q fuel listed a w
 | 0,_,_,_,h=>h
 | fuel+1,listed,a,w,h=>⟨h.1,fun i hi=>wpOp_in l n (hd i) hQ (fun a w=>wpAny_in l n hd hQ fuel _ a w) (h.2 i hi)⟩
theorem wpIn_region_flowF (l0 m:Nat){id:Nat}{a:Act}{w:World}{l:List Oper}(hnd:l.all noDefer=true)(hQ:¬LetsOut Q)(n:Nat)(F:(Nat→Value)→Act)(hF:∀us,flowAct us (l.take n) 0 a=F us)(hm:P.follows .mixedOrders=true)(hB:flowB l n=true)(R:World→World→Prop)(hR0:∀w,R w w)(hRt:∀ {x y z},R x y→R y z→R x z)(Raw:Nat→Value→World→Prop)
  (hs:flowStepsF P l Q F R Raw w.drew (l.take n) 0)
  (ht:∀us W,R w.drew W→(∀j,j<n→Raw j (us j) W)→wpList P l.toArray Q (l.drop n) (F us) W):(Code.region id l.toArray true).wpIn (Fence.wide.inRound l0) m P Q a w:=by
 refine wpIn_region_any hm ?_
 refine wpAny_in l0 m (fun i o ho=>?_) hQ _ _ _ _ ?_
 ·rw[List.getElem?_toArray] at ho
  exact List.all_eq_true.1 hnd o (List.mem_of_getElem? ho)
 have hs':=flowStepsF_of (P:=P) (Q:=Q) (a:=a) hF hs;have ht':∀us W,R w.drew W→(∀j,j<n→Raw j (us j) W)→wpList P l.toArray Q (l.drop n) (flowAct us (l.take n) 0 a) W:=fun us W h1 h2=>by rw[hF];exact ht us W h1 h2
 have hn:n≤l.length:=by
  simp only[flowB,Bool.and_eq_true,decide_eq_true_eq] at hB
  exact hB.1.1.1.1
 let us0:Nat→Value:=fun i=>match (l.take n)[i]? with|some o=>(match o.dst with|some d=>a.tmps.getD d undef|none=>undef)|none=>undef
 have h0:flowAct us0 (l.take n) 0 a=a:=flowAct_own (l.take n) 0 a us0 fun i o ho=>by simp only[us0,Nat.zero_add,ho];cases o.dst<;>rfl
 have hc:cntU n (Array.replicate l.toArray.size false)=n:=by
  unfold cntU;rw[List.filter_eq_self.2 (fun i _=>by rw[getD_replicate_false];rfl),List.length_range]
 have inv0:HeadInv .any l.toArray n (Array.replicate l.toArray.size false) :=
  ⟨by simp,fun j oj _ hl=>(by rw[getD_replicate_false] at hl;cases hl),fun t _ ht=>getD_in (by simpa using ht) (getD_replicate_false _ _)⟩
 have H:=flow_any (Q:=Q) hB hR0 (fun h1 h2=>hRt h1 h2) hs' ht' n _ us0 w.drew hc inv0 (hR0 _) (fun j _ hj=>by rw[getD_replicate_false] at hj;cases hj)
 rw[h0,show n+(l.length-n)=l.toArray.size by simp;omega] at H
 exact H
end
end
section
attribute [local go_sem] Oper.semAt_some
abbrev Bel (m:Nat):={ k:Nat // k<m }
def upB (m:Nat):Nat→List (Bel m)
 | 0=>[]
 | k+1=>if h:k<m then upB m k++[⟨k,h⟩] else upB m k
theorem upB_succ {m k:Nat}(h:k<m):upB m (k+1)=upB m k++[⟨k,h⟩]:=by
 rw[upB,dif_pos h]
theorem upB_val (m:Nat):∀k,k≤m→(upB m k).map (·.1)=List.range k
 | 0,_=>rfl
 | k+1,h=>by rw[upB_succ (by omega),List.map_append,upB_val m k (by omega),List.range_succ];rfl
theorem upB_len (m k:Nat)(h:k≤m):(upB m k).length=k:=by
 have:=congrArg List.length (upB_val m k h)
 simpa using this
def chunkV (b o q k:Nat):Value:=.slice (some ⟨b,o+q*k,none⟩) q q
def KpB (Bs Bn:Nat)(A B:World):Prop:=B.cell? ⟨Bs,0,none⟩=A.cell? ⟨Bs,0,none⟩∧B.cell? ⟨Bn,0,none⟩=A.cell? ⟨Bn,0,none⟩
theorem KpB.trans {Bs Bn:Nat}{A B C:World}(h:KpB Bs Bn A B)(k:KpB Bs Bn B C):KpB Bs Bn A C:=⟨k.1.trans h.1,k.2.trans h.2⟩
theorem chunk1_in (l Bs Bn b o len c q m:Nat)(hq:1≤q)(hm:len=q*m)(hlc:len≤c)(hc:c≤9223372036854775807)(J Jx:List (Bel m)→World→Prop)
  (hY:∀pre x W,J pre W→pre.length<m→YieldAt Fence.wide 4 Tryz.prog l #[chunkV b o q x.1] W fun e W' =>
   (e=.returned (.bool true)∧J (pre++[x]) W'∧KpB Bs Bn W W')∨(e=.returned (.bool false)∧Jx (pre++[x]) W'))
  (hJd:∀pre W,J pre W→J pre W.drew)
  (W:World) (hBs:W.cell? ⟨Bs,0,none⟩=some (.slice (some ⟨b,o,none⟩) len c)) (hBn:W.cell? ⟨Bn,0,none⟩=some (.int .i64 (q:Int))) (h0:J [] W) :
  CallsIn Fence.wide 5 Tryz.prog 118 #[.func (.yield l) #[] #[],.pointer (some ⟨Bs,0,none⟩),.pointer (some ⟨Bn,0,none⟩)] W fun e W'=>(∃v,e=.returned v) ∧
   ((∃ys,ys=upB m m∧J ys W')∨(∃pre,True∧Jx pre W')):=by
 refine callsIn_of_wp Tryz.func118 rfl trivial ?_ rfl
 simp only[Tryz.ntmps118,List.size_toArray,List.length_cons,List.length_nil,Nat.reduceAdd,Nat.reduceSub,Array.replicate_succ,Array.replicate_zero,List.push_toArray,List.append_toArray,List.nil_append,List.cons_append]
 gi_wp2
 gi_loopw [4] (fun i wr=>∃k p:Nat,p=q*k∧k≤m∧i=.int .i64 (p:Int)∧J (upB m k) wr∧KpB Bs Bn W wr)
  (fun i _=>len-(intOf i).toNat)
 case atStart=>exact⟨0,0,rfl,Nat.zero_le _,rfl,h0,⟨rfl,rfl⟩⟩
 case round =>
  obtain⟨k,p,hp,hk,rfl,hJs,hnx⟩:=hrel;have hcs:wr.cell? ⟨Bs,0,none⟩=some (.slice (some ⟨b,o,none⟩) len c):=hnx.1.trans hBs
  have hcn:wr.cell? ⟨Bn,0,none⟩=some (.int .i64 (q:Int)):=hnx.2.trans hBn
  by_cases hlt:k<m
  ·have hpq:p+q≤len:=by
    rw[hp,hm];have:q*(k+1)≤q*m:=Nat.mul_le_mul_left q hlt
    rw[Nat.mul_succ] at this;exact this
   obtain⟨fn,tmps,assign,body,hy,hR⟩:=hY _ ⟨k,hlt⟩ wr.drew (hJd _ _ hJs) (by rw[upB_len m k hk];exact hlt)
   dsimp only[chunkV] at hy;rw[←hp] at hy;have hplt:p<len:=by omega
   have HP:=hid hp;have HM:=hid hm;clear hp hm
   gi_wp2
   refine wpIn_wide.2 ?_
   go_region
   gi_wp2
   refine hR.mono ?_
   rintro e W3 (⟨rfl,hJ3,hk3⟩|⟨rfl,hJx3⟩)
   ·have hk4:KpB Bs Bn W W3:=hnx.trans ⟨hk3.1,hk3.2⟩
    have hcn3:W3.cell? ⟨Bn,0,none⟩=some (.int .i64 (q:Int)):=hk4.2.trans hBn
    gi_wp2
    go_roundw
    case rel=>exact⟨k+1,p+q,by rw[HP.out,Nat.mul_succ],by omega,by rw[Int.natCast_add],by rw[upB_succ hlt];exact hJ3,hk4⟩
    case measure=>simp [intOf];omega
   ·gi_wp2
    refine bodyPost_ret (results_none rfl _ _ _) rfl ?_
    exact⟨⟨_,rfl⟩,.inr ⟨_,trivial,hJx3⟩⟩
  ·obtain rfl:k=m:=by omega
   have hpl:p=len:=by omega
   subst hpl
   gi_wp2
   go_end0
   exact⟨⟨_,rfl⟩,.inl ⟨_,rfl,hJs⟩⟩
theorem chunk1_nil (l Bs Bn:Nat)(A:Option Addr)(c:Nat)(J:World→Prop)(W:World)(hBs:W.cell? ⟨Bs,0,none⟩=some (.slice A 0 c))(h0:J W) :
  CallsIn Fence.wide 5 Tryz.prog 118 #[.func (.yield l) #[] #[],.pointer (some ⟨Bs,0,none⟩),.pointer (some ⟨Bn,0,none⟩)] W fun e W'=>(∃v,e=.returned v)∧J W':=by
 refine callsIn_of_wp Tryz.func118 rfl trivial ?_ rfl
 simp only[Tryz.ntmps118,List.size_toArray,List.length_cons,List.length_nil,Nat.reduceAdd,Nat.reduceSub,Array.replicate_succ,Array.replicate_zero,List.push_toArray,List.append_toArray,List.nil_append,List.cons_append]
 gi_wp2
 gi_loopw [4] (fun i wr=>i=.int .i64 0∧wr=W) (fun _ _=>0)
 case atStart=>exact⟨rfl,rfl⟩
 case round =>
  obtain⟨rfl,rfl⟩:=hrel
  gi_wp2
  go_end0
  exact⟨⟨_,rfl⟩,h0⟩
theorem chunk1_stops (Bs Bn len c q m:Nat)(A:Option Addr)(hq:1≤q)(hm:len=q*m)(hlc:len≤c)(hc:c≤9223372036854775807)(w:World)(hbn:Bs<w.heap.size)(hbn2:Bn<w.heap.size)
  (hBs:w.cell? ⟨Bs,0,none⟩=some (.slice A len c)) (hBn:w.cell? ⟨Bn,0,none⟩=some (.int .i64 (q:Int))) (b o:Nat) (hA:0<len→A=some ⟨b,o,none⟩) :
  SeqStopsK Fence.wide 5 Tryz.prog 118 #[.pointer (some ⟨Bs,0,none⟩),.pointer (some ⟨Bn,0,none⟩)] (fun x:Bel m=>#[chunkV b o q x.1]) (KpB Bs Bn) (fun ys=>ys=upB m m) (fun _=>True) m w:=fun l J Jx W hW hJ hJx hY h0=>by
 have hcs:=(hW.cell (p:=⟨Bs,0,none⟩) hbn).trans hBs;have hcn:=(hW.cell (p:=⟨Bn,0,none⟩) hbn2).trans hBn;rcases Nat.eq_zero_or_pos len with h|h
 ·subst h
  have hm0:m=0:=by
   rcases Nat.mul_eq_zero.1 hm.symm with h|h<;>omega
  subst hm0;exact (chunk1_nil l Bs Bn A c (J []) W hcs h0).mono fun e W' ⟨he,hj⟩=>⟨he,.inl ⟨[],rfl,hj⟩⟩
 ·rw[hA h] at hcs
  refine (chunk1_in l Bs Bn b o len c q m hq hm hlc hc J Jx hY (fun pre W hj=>hJ pre W W.drew none hj ⟨rfl,rfl,rfl,Nat.le_refl _,fun i hi _=>rfl⟩ (fun r e=>by cases e)) W hcs hcn h0).mono fun e W' h=>h
theorem chunk_any (A:Option Addr)(n c q:Nat)(hq:1≤q)(w:World) :
  Calls Tryz.prog 72 #[.slice A n c,.int .i64 (q:Int)] w fun e w'=>e=.returned (.func (.func 118) #[] #[.pointer (some ⟨w.heap.size,0,none⟩),.pointer (some ⟨w.heap.size+1,0,none⟩)])∧w'=(w.alloc (.cells #[.slice A n c] 22)).alloc (.cells #[.int .i64 (q:Int)] 3):=by
 have h1:decide ((q:Int)<1)=false:=decide_eq_false (by omega)
 clear hq;go_enter Tryz.func72,Tryz.ntmps72
 go_wp2_with fail
 go_ret
 exact⟨rfl,rfl⟩
end
section
def restA (A:Option Addr)(c u:Nat):Option Addr:=if c=u then A else A.map (·.add u)
section
variable {P:Program} {ops:Array Oper} {rest:List Oper} {o:Oper} {a:Act} {w:World} {Q:Exit→Act→World→Prop}
theorem wp_slice_rest {K:Act→World→Prop}(ty:TypeId)(x lo:Operand)(ho:o.op=.slice ty x (some lo) none none)(ht:P.underlying ty=some (.slice (P.elem ty)))(hz:∀w,(sizeOf (P.elem ty)).run P w=.ok 1 w){A:Option Addr}{n c u:Nat}(hx:a.eval x=.slice A n c)(hlo:a.eval lo=.int .i64 (u:Int))(hu:u≤n)
  {A2:Option Addr} (hA:A2=restA A c u) {m2 c2:Nat} (hm:m2=n-u) (hc2:c2=c-u) (h:K (a.put o.dst (.slice A2 m2 c2)) w):o.wp P a w K Q:=by
 unfold Oper.wp execOp;have e:=run_slice_l (P:=P) w ty A n c ht .i64 (u:Int) (by omega) (by omega)
 simp only[ho,hx,hlo,Option.map_some,Option.map_none,Sem.run_bind,run_sliceAt_slice w ty _ _ _ _ ht,e,hz,Result.andThen_ok,Int.toNat_natCast,sliced,Nat.mul_one]
 subst hA hm hc2;exact h
theorem wpList_slice_rest (hg:o.guard=none)(ty:TypeId)(x lo:Operand)(ho:o.op=.slice ty x (some lo) none none)(ht:P.underlying ty=some (.slice (P.elem ty)))(hz:∀w,(sizeOf (P.elem ty)).run P w=.ok 1 w){A:Option Addr}{n c u:Nat}(hx:a.eval x=.slice A n c)(hlo:a.eval lo=.int .i64 (u:Int))(hu:u≤n)
  {A2:Option Addr} (hA:A2=restA A c u) {m2 c2:Nat} (hm:m2=n-u) (hc2:c2=c-u) (h:wpList P ops Q rest (a.put o.dst (.slice A2 m2 c2)) w):wpList P ops Q (o::rest) a w :=
 wpList_plain hg fun _ hK=>wp_slice_rest ty x lo ho ht hz hx hlo hu hA hm hc2 (hK _ _ h)
end
theorem wpList_build_eq {P:Program}{ops:Array Oper}{rest:List Oper}{o:Oper}{a:Act}{w:World}{Q:Exit→Act→World→Prop}(hw:Region.wanted o (yielded ops a.tmps)=true)(t:TypeId)(parts:Array (Nat×Operand))(ho:o.op=.build t parts)(vs:List (Nat×Value))(hv:(parts.map fun (i,x)=>(i,a.eval x)).toList=vs)(cells:List Value)
  (hf:P.built t vs=some cells.toArray) (h:wpList P ops Q rest (a.put o.dst (.agg cells.toArray)) w):wpList P ops Q (o::rest) a w :=
 BigFrame.wpList_want hw fun _ hK=>wp_build t parts ho (by rw[hv,hf];rfl) (by rw[hv,hf];exact hK _ _ h)
theorem rd_restA {w:World}{B n c u:Nat}{A A2:Option Addr}{l:List Int}(h:Rd w B A n (u8s l))(hA:A2=restA A c u){m2:Nat}(hm:m2=n-u)(hu:u≤n)(hnc:n≤c):Rd w B A2 m2 (u8s (l.drop u)):=by
 subst hA hm;refine⟨by have:=h.1;simp only[u8s,List.length_map,List.length_drop] at this⊢;omega,fun hn=>?_⟩
 obtain⟨b,o,hA,hb,hc⟩:=h.2 (by omega)
 refine⟨b,o+u,?_,hb,fun j v hv=>?_⟩
 ·unfold restA
  rw[if_neg (by omega),hA]
  simp [Addr.add]
 ·rw[Nat.add_assoc]
  refine hc (u+j) v ?_
  rw[←hv];simp only[u8s,List.map_drop,List.getElem?_drop]
theorem results_blk_bit {P:Program}{fn:Func}{p u:Tmp}{ty:TypeId}(h:fn.results=#[ResultVar.cell p ty,.tmp u])(tmps:Array Value)(w:World)(g:Nat)(t:TypeId)(cs:List Value)(d:TypeDesc)(hp:tmps.getD p undef=.pointer (some ⟨g,0,none⟩))
  (hb:Blk w g t cs) (hu:P.underlying ty=some d) (hd:d.isRow=true) (hi:(P.info? ty).map (·.size)=some cs.length):(results fn tmps).run P w=.ok (.tuple #[.agg cs.toArray,tmps.getD u undef]) w:=by
 have hp':tmps[p]?.getD undef=.pointer (some ⟨g,0,none⟩):=by simpa using hp
 simp [results,h,hp',asAddr,run_loadVar_row w g t ty cs.toArray (0,0) d hb hu (by cases d<;>first|rfl|cases hd) (by rw[hi,List.size_toArray])]
end
section
end
section
end
end Go.Proofs.YtjeecfjeooehhaaGreatDoor