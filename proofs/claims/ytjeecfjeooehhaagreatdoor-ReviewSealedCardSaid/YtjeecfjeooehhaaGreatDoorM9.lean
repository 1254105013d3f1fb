/- The bytes of a review: review.encode. Conditions: at most 1000 operations, 64-bit numbers, a seal of at most 10^9 bytes. -/
import Derived.Test.YtjeecfjeooehhaaGreatDoorM7
import Derived.Test.YtjeecfjeooehhaaGreatDoorM8
import Derived.Test.YtjeecfjeooehhaaGreatDoorM4
set_option linter.unusedSimpArgs false
set_option linter.unusedVariables false
set_option maxHeartbeats 16000000
set_option maxRecDepth 100000
namespace Go.Proofs.YtjeecfjeooehhaaGreatDoor
open Go.RowKit
open Lib (hid)
section
attribute [local go_sem ↓] wp_at_zero wp_at_succ
theorem own_lo {w:World}{b b':Nat}{e:TypeId}{size:Nat}{v:Value}{n:Nat}{xs:List Value}(h:w.ownsRow b e size v n xs)(hb:b'≤b):w.ownsRow b' e size v n xs :=
 ⟨h.1,h.2.imp id (fun⟨g,cap,cur,h1,h2,h3⟩=>⟨g,cap,cur,h1,Nat.le_trans hb h2,h3⟩)⟩
def i64 (x:Int):Prop:=-9223372036854775808≤x∧x≤9223372036854775807
def opI (x:Rid):List Int:=[x.s,x.q,x.i]
def opsI (L:List Rid):List Int:=L.flatMap opI
def wdI (b:Bool):Int:=if b then 1 else 0
def encR (r:Rev):List Int:=encL encInt [r.shop,r.seq,r.day]++encInt (wdI r.wd)++encL encInt (opsI r.ops)++encL idD [r.mean]++encB r.sl
structure RevW (r:Rev):Prop where
 shop:i64 r.shop
 seq:i64 r.seq
 day:i64 r.day
 ops:∀x∈opsI r.ops,-9223372036854775808≤x∧x≤9223372036854775807
 sls:r.sl.size≤1000000000
 many:r.ops.length≤1000
theorem revC_21 (r:Rev)(A:Option Addr)(n c:Nat)(h:r.mean.length=16):(revC r A n c)[21]?=some (.string r.sl):=by
 unfold revC;rw[List.getElem?_append_right (by simp [u8s,h])]
 simp [u8s,h]
theorem opsI_cells (L:List Rid):idsC L=(opsI L).map (Value.int .i64):=by
 unfold idsC opsI;rw[List.map_flatMap];rfl
theorem opsI_len (L:List Rid):(opsI L).length=3*L.length:=by
 have h:=idsC_len L;rw[opsI_cells,List.length_map] at h;omega
theorem opsI_snoc {L:List Rid}{t:Nat}{x:Rid}(h:L[t]?=some x):opsI (L.take (t+1))=opsI (L.take t)++opI x:=by
 unfold opsI;rw[List.take_add_one,h,List.flatMap_append];simp
theorem encL_le (l:List Int)(hw:∀x∈l,-9223372036854775808≤x∧x≤9223372036854775807)(hn:l.length≤1000000):(encL encInt l).length≤9+9*l.length:=by
 have h0:=encInt_le9 (l.length:Int) (by omega) (by omega)
 have h1:∀m:List Int,(∀x∈m,-9223372036854775808≤x∧x≤9223372036854775807)→(m.flatMap encInt).length≤9*m.length:=by
  intro m
  induction m with
  | nil=>intro _;simp
  | cons x r ih =>
   intro hx;have h2:=hx x (List.mem_cons_self ..);have h3:=encInt_le9 x h2.1 h2.2;have h4:=ih (fun y hy=>hx y (List.mem_cons_of_mem _ hy))
   rw[List.flatMap_cons,List.length_append,List.length_cons];omega
 have h2:=h1 l hw;unfold encL;rw[List.length_append];omega
theorem encode_any (r:Rev)(A:Option Addr)(n c:Nat)(w:World)(hr:RevV w r A n c)(hw:RevW r):Calls Tryz.prog 31 #[.agg (revC r A n c).toArray] w fun e w'=>(∃A' c',e=.returned (.slice A' (encR r).length c')∧w'.ownsRow w.heap.size 5 1 (.slice A' (encR r).length c') (encR r).length (u8s (encR r)))∧Ext w w':=by
 obtain⟨i0,hi,hz0,hz1,hz2⟩:=info_parts winfo_u8;obtain⟨i1,hi',hz0',hz1',hz2'⟩:=info_parts winfo_int;have HR:=hid hr;have HLN:=hid hr.len;have HW:=hid hw;have hn:n≤1000:=by rw[←hr.len];exact hw.many
 have hw3:∀x∈[r.shop,r.seq,r.day],-9223372036854775808≤x∧x≤9223372036854775807:=fun x hx=>by
  simp only[List.mem_cons,List.not_mem_nil,or_false] at hx
  rcases hx with rfl|rfl|rfl
  ·exact hw.shop
  ·exact hw.seq
  ·exact hw.day
 have q1:=encL_le _ hw3 (by simp)
 have q2:=encInt_le9 (wdI r.wd) (by unfold wdI;split<;>decide) (by unfold wdI;split<;>decide)
 have q3:=encL_le _ hw.ops (by rw[opsI_len,HLN.out];omega)
 have q4:(encL idD [r.mean]).length≤25:=by
  have h:=encInt_le9 1 (by decide) (by decide)
  unfold encL idD;simp only[List.length_append,List.flatMap_cons,List.flatMap_nil,List.length_nil,hr.mean,List.length_cons]
  have:(((0+1:Nat):Int))=1:=rfl
  rw[this];omega
 have q5:(encB r.sl).length≤9+r.sl.size:=by
  have h:=encInt_le9 (r.sl.size:Int) (by omega) (by have:=hw.sls;omega)
  unfold encB;rw[List.length_append,bys_length];omega
 rw[opsI_len,HLN.out] at q3;simp only[List.length_cons,List.length_nil] at q1
 obtain⟨e1,he1⟩:∃e,e=encL encInt [r.shop,r.seq,r.day]:=⟨_,rfl⟩
 obtain⟨e2,he2⟩:∃e,e=encInt (wdI r.wd):=⟨_,rfl⟩
 obtain⟨e3,he3⟩:∃e,e=encL encInt (opsI r.ops):=⟨_,rfl⟩
 obtain⟨e4,he4⟩:∃e,e=encL idD [r.mean]:=⟨_,rfl⟩
 obtain⟨e5,he5⟩:∃e,e=encB r.sl:=⟨_,rfl⟩
 have hE:encR r=e1++e2++e3++e4++e5:=by rw[he1,he2,he3,he4,he5];rfl
 rw[←he1] at q1;rw[←he2] at q2;rw[←he3] at q3;rw[←he4] at q4;rw[←he5] at q5;obtain⟨k1,hk1⟩:∃k,k=e1.length:=⟨_,rfl⟩
 obtain⟨k2,hk2⟩:∃k,k=e2.length:=⟨_,rfl⟩
 obtain⟨k3,hk3⟩:∃k,k=e3.length:=⟨_,rfl⟩
 obtain⟨k4,hk4⟩:∃k,k=e4.length:=⟨_,rfl⟩
 obtain⟨k5,hk5⟩:∃k,k=e5.length:=⟨_,rfl⟩
 rw[←hk1] at q1;rw[←hk2] at q2;rw[←hk3] at q3;rw[←hk4] at q4;rw[←hk5] at q5;have q5':k5≤1000000009:=by have:=hw.sls;omega
 have q3':k3≤27009:=by omega
 have HL:Hid (k1+k2+k3+k4+k5=(encR r).length):=hid (by rw[hE];simp only[List.length_append];omega)
 have HU:Hid (u8s e1++u8s e2++u8s e3++u8s e4++u8s e5=u8s (encR r)):=hid (by rw[hE];simp only[u8s_append])
 have HI1:Hid (∀W:World,Calls Tryz.prog 65 #[.slice (some ⟨W.heap.size,0,none⟩) 3 3] (W.alloc (.cells #[.int .i64 r.shop,.int .i64 r.seq,.int .i64 r.day] 3)) fun e w'=>(∃A c,e=.returned (.slice A k1 c)∧w'.ownsRow W.heap.size 5 1 (.slice A k1 c) k1 (u8s e1))∧Ext W w'):=hid (fun W=>by
  have hf:=(Blk.fresh W 3 [.int .i64 r.shop,.int .i64 r.seq,.int .i64 r.day]).rd rfl;have h:=ints_any [r.shop,r.seq,r.day] (some ⟨W.heap.size,0,none⟩) 3 3 (W.alloc (.cells #[.int .i64 r.shop,.int .i64 r.seq,.int .i64 r.day] 3)) hf hw3 (by rw[←he1,←hk1];omega) (by decide)
  rw[←he1,←hk1] at h;refine h.mono ?_
  rintro e w' ⟨⟨A,c,rfl,ho⟩,hB⟩
  exact⟨⟨A,c,rfl,own_lo ho (by simp)⟩,((Ext.refl W).alloc _).next hB⟩)
 have HI2:Hid (∀W:World,Calls Tryz.prog 66 #[.int .i64 (wdI r.wd)] W fun e w'=>(∃A c,e=.returned (.slice A k2 c)∧w'.ownsRow W.heap.size 5 1 (.slice A k2 c) k2 (u8s e2))∧Below W.heap.size W w'):=hid (fun W=>by
  have h:=wintL_any (wdI r.wd) W (by unfold wdI;split<;>decide) (by unfold wdI;split<;>decide)
  rw[←he2,←hk2] at h;exact h)
 have HI3:Hid (∀(W:World) (A:Option Addr) (c:Nat),Rd W W.heap.size A (3*n) ((opsI r.ops).map (Value.int .i64))→Calls Tryz.prog 65 #[.slice A (3*n) c] W fun e w'=>(∃A c,e=.returned (.slice A k3 c)∧w'.ownsRow W.heap.size 5 1 (.slice A k3 c) k3 (u8s e3))∧Below W.heap.size W w'):=hid (fun W A c hA=>by
  have h:=ints_any (opsI r.ops) A (3*n) c W hA hw.ops (by rw[←he3,←hk3];omega) (by omega)
  rw[←he3,←hk3] at h;exact h)
 have HI4:Hid (∀(W:World) (o:Obj),o=.cells (u8s r.mean).toArray 26→Calls Tryz.prog 67 #[.slice (some ⟨W.heap.size,0,none⟩) 1 1] (W.alloc o) fun e w'=>(∃A c,e=.returned (.slice A k4 c)∧w'.ownsRow W.heap.size 5 1 (.slice A k4 c) k4 (u8s e4))∧Ext W w'):=hid (fun W o ho=>by
  have hul:(u8s r.mean).length=16:=by rw[u8s_length,hr.mean]
  have hA:RdN (W.alloc o) (W.alloc o).heap.size 16 (some ⟨W.heap.size,0,none⟩) 1 (celD [r.mean]):=by
   rw[show celD [r.mean]=u8s r.mean from by simp [celD],World.size_alloc]
   exact RdN.fresh _ _ _ 16 1 ho rfl hul
  have h:=digests_any [r.mean] (some ⟨W.heap.size,0,none⟩) 1 1 (W.alloc o) hA (fun d hd=>by rw[List.mem_singleton] at hd;subst hd;exact⟨hr.mean,hr.mbyt⟩) rfl (by decide)
  rw[←he4,←hk4] at h;refine h.mono ?_
  rintro e w' ⟨⟨A,c,rfl,ho⟩,hB⟩
  exact⟨⟨A,c,rfl,own_lo ho (by simp)⟩,((Ext.refl W).alloc _).next hB⟩)
 have HI5:Hid (∀W:World,Calls Tryz.prog 68 #[.string r.sl] W fun e w'=>(∃A c,e=.returned (.slice A k5 c)∧w'.ownsRow W.heap.size 5 1 (.slice A k5 c) k5 (u8s e5))∧Below W.heap.size W w'):=hid (fun W=>by
  have h:=wbytes_any r.sl W (by have:=hw.sls;omega)
  rw[←he5,←hk5] at h;exact h)
 have HUL:Hid ((u8s r.mean).length=16):=hid (by rw[u8s_length,hr.mean])
 have hl16:=HUL.out;have HWD:Hid (wdI r.wd=if r.wd then 1 else 0):=hid rfl
 clear hr hw hw3 he1 he2 he3 he4 he5 hE hk1 hk2 hk3 hk4 hk5 q3 q5;go_enter Tryz.func31,Tryz.ntmps31
 go_upto_region 1 with fail
 obtain⟨w1,hw1⟩:∃x,x=w.alloc (.cells (revC r A n c).toArray 28):=⟨_,rfl⟩
 change Code.wp _ _ _ _ (w.alloc (.cells (revC r A n c).toArray 28))
 rw[←hw1];have E1:Hid (Ext w w1):=hid (by rw[hw1];exact (Ext.refl w).alloc _)
 have BR:Hid (Blk w1 w.heap.size 28 (revC r A n c)):=hid (by rw[hw1];exact Blk.fresh' _ _ _ _ _ rfl rfl)
 clear hw1;obtain⟨c0,c1,c2,-,-⟩:=rev_cell BR.out;go_upto_region 2 with ((go_at_call 65;(with_reducible refine (HI1.out w1).mono ?_);rintro e w2 ⟨⟨A1,a1,rfl,o1⟩,x1⟩;have O1:=hid o1;have X1:Hid (Ext w1 w2):=hid x1;clear o1 x1;have c3:w2.cell? ⟨w.heap.size,3,none⟩=some (.bool r.wd):=(BR.out.ext X1.out).cell 3))
 clear c0 c1 c2;go_upto_if 17 with fail
 go_cut [4] from 17 to 18 (fun s wx=>s=.int .i64 (wdI r.wd)∧w2=wx)
 case first =>
  obtain⟨b,hb⟩:∃b,b=r.wd:=⟨_,rfl⟩
  have HB1:Hid (b=true→wdI r.wd=1):=hid (fun h=>by rw[HWD.out,←hb,h];rfl)
  have HB0:Hid (b=false→wdI r.wd=0):=hid (fun h=>by rw[HWD.out,←hb,h];rfl)
  rw[←hb];clear c3 hb
  cases b
  ·have hv:=hid (HB0.out rfl)
   go_wp2_with fail
   go_meet
   case rel=>exact⟨by rw[hv.out],rfl⟩
  ·have hv:=hid (HB1.out rfl)
   go_wp2_with fail
   go_meet
   case rel=>exact⟨by rw[hv.out],rfl⟩
 case rest =>
  obtain⟨hs4,rfl⟩:=hcut;subst hs4;clear c3
  go_upto_region 8 with ((first
   | (go_at_call 66;(with_reducible refine (HI2.out w2).mono ?_);rintro e w3 ⟨⟨A2,a2,rfl,o2⟩,x2⟩;have O2:=hid o2;have X2:Hid (Ext w1 w3):=hid (X1.out.next x2);have O12:=hid (own_below O1.out x2);clear o2 x2)
   | (at_builtin;refine wpList_app rfl (.tmp 18) (.tmp 20) 23 rfl w1.heap.size 5 i0 (.int .u8 0) 1 1 Tryz.underlying23 hi hz0 hz1 hz2 rfl (by omega) A1 (k1) a1 _ rfl O12.out w3.heap.size A2 k2 a2 _ rfl (RdN.of_Rd (Rd.of_own O2.out)) (u8s_one _) (by simp only[maxLen];omega) (by omega) (X2.out.size) ?_;intro B3 d3 v3 o3 g3;have O3:=hid o3;have X3:Hid (Ext w1 v3):=hid (below_app X2.out g3 O12.out (Nat.le_refl _) (X2.out.size));clear o3 g3;have cc4:v3.cell? ⟨w.heap.size,4,none⟩=some (.slice A n c):=(BR.out.ext X3.out).cell 4)))
  obtain⟨v0,rfl⟩:∃x:World,x=v3:=⟨_,rfl⟩
  go_loopw [25,5] (fun i s5 wr=>∃(t m:Nat) (A:Option Addr) (c:Nat),t≤n∧Hid (m=3*t)∧i=.int .i64 (t:Int)∧s5=.slice A m c∧wr.ownsRow v0.heap.size 3 1 (.slice A m c) m ((opsI (r.ops.take t)).map (Value.int .i64))∧Ext v0 wr) (fun i _ _=>n-(intOf i).toNat)
  case atStart=>exact⟨0,0,none,0,by omega,hid rfl,rfl,rfl,World.ownsRow_nil _ _ _ _,Ext.refl _⟩
  case round =>
   obtain⟨t,m,A5,c5,ht,HM,rfl,rfl,hO,hE⟩:=hrel;have O5:=hid hO;have EO:=hid hE;clear hO hE cc4;obtain⟨wo,rfl⟩:∃x:World,x=wr:=⟨_,rfl⟩
   by_cases hlt:t<n
   ·obtain⟨g,p,hA,hg,hcc⟩:=HR.out.row.2 (by omega)
    subst hA;obtain⟨⟨s,q,z⟩,hy⟩:∃y,y=r.ops.getD t rid0:=⟨_,rfl⟩
    have hy2:r.ops[t]?=some ⟨s,q,z⟩:=by rw[hy];exact getD_of (by rw[HLN.out];exact hlt)
    have HRG:Hid (wo.rangeAt g (p+t*3) [.int .i64 s,.int .i64 q,.int .i64 z]):=hid (ids_range (L:=r.ops) (x:=⟨s,q,z⟩) (fun j u hu=>(((E1.out.next X3.out).next EO.out).cell (p:=⟨g,p+j,none⟩) hg).trans (hcc j u hu)) hy2)
    have HTK:Hid ((opsI (r.ops.take (t+1))).map (Value.int .i64)=(opsI (r.ops.take t)).map (Value.int .i64)++[.int .i64 s,.int .i64 q,.int .i64 z]):=hid (by rw[opsI_snoc hy2,List.map_append];rfl)
    have hm3:m≤3000:=by have:=HM.out;omega
    obtain⟨z0,hz0,hz1⟩:∃Z:List Value,(∀W,(zeroValue 68).run Tryz.prog W=.ok (.agg Z.toArray) W)∧Z.length=3:=⟨[.int .i64 0,.int .i64 0,.int .i64 0],fun W=>by kernel_rfl,rfl⟩
    have HZ1:=hid hz1;clear hz1 hcc hy hy2
    go_wp2_with ((first
     | (refine wpList_load_mid rfl 68 (.tmp 27) rfl g (p+t*3) rfl [.int .i64 s,.int .i64 q,.int .i64 z] _ HRG.out Tryz.underlying68 rfl (info_id.trans rfl) ?_)
     | (refine wpList_store_fresh rfl 68 (.tmp 7) (.tmp 28) rfl _ wo.heap.size rfl z0 [.int .i64 s,.int .i64 q,.int .i64 z] 68 (by rfl) (by rfl) rfl (info_id.trans rfl) (HZ1.out.trans rfl) (idC_one ⟨s,q,z⟩) ?_;intro w6 hw6 hE6 hz6;have E6:Hid (Ext v0 w6):=hid (EO.out.next hE6);have b0:w6.cell? ⟨wo.heap.size,0,none⟩=some (.int .i64 s):=hw6.cell 0;have b1:w6.cell? ⟨wo.heap.size,1,none⟩=some (.int .i64 q):=hw6.cell 1;have b2:w6.cell? ⟨wo.heap.size,2,none⟩=some (.int .i64 z):=hw6.cell 2;have O6:=hid (own_below O5.out hE6);clear hw6 hE6 hz6)
     | (at_builtin;refine wpList_app rfl (.tmp 29) (.tmp 36) 22 rfl v0.heap.size 3 i1 (.int .i64 0) 1 8 Tryz.underlying22 hi' hz0' hz1' hz2' rfl (by omega) A5 m c5 _ rfl (O6.out.alloc _) (w6.heap.size+1) (some ⟨w6.heap.size,0,none⟩) 3 3 [.int .i64 s,.int .i64 q,.int .i64 z] rfl (RdN.fresh _ _ _ 1 3 rfl rfl rfl) (idC_one ⟨s,q,z⟩) (by simp only[maxLen];omega) (by omega) (by have:=E6.out.size;simp;omega) ?_;intro A7 c7 w7 o7 g7;have hb7:=below_app (E6.out.alloc _) g7 (O6.out.alloc _) (Nat.le_refl _) (by have:=E6.out.size;simp;omega))))
    exact⟨⟨t+1,m+3,A7,c7,by omega,hid (by have:=HM.out;omega),by go_num,rfl,by rw[HTK.out];exact o7,hb7⟩,by simp [intOf];omega⟩
   ·obtain rfl:t=n:=by omega
    have HTF:Hid (opsI (r.ops.take t)=opsI r.ops):=hid (by rw[List.take_of_length_le (by rw[HLN.out];omega)])
    have HM':=hid HM.out;have hmm:=HM.out;subst hmm;have HRO:Hid (Rd wo wo.heap.size A5 (3*t) ((opsI r.ops).map (Value.int .i64))):=hid (by have h:=Rd.of_own O5.out;rw[HTF.out] at h;exact h)
    have O30:=hid (own_below O3.out EO.out);have X30:=hid (X3.out.next EO.out)
    go_upto_region 13 with ((first
     | (go_at_call 65;(with_reducible refine (HI3.out wo A5 c5 HRO.out).mono ?_);rintro e w8 ⟨⟨A8,a8,rfl,o8⟩,x8⟩;have O8:=hid o8;have X8:Hid (Ext w1 w8):=hid (X30.out.next x8);have O38:=hid (own_below O30.out x8);clear o8 x8)
     | (at_builtin;refine wpList_app rfl (.tmp 39) (.tmp 41) 23 rfl w1.heap.size 5 i0 (.int .u8 0) 1 1 Tryz.underlying23 hi hz0 hz1 hz2 rfl (by omega) B3 (k1+k2) d3 _ rfl O38.out w8.heap.size A8 k3 a8 _ rfl (RdN.of_Rd (Rd.of_own O8.out)) (u8s_one _) (by simp only[maxLen];omega) (by omega) (X8.out.size) ?_;intro B9 d9 v9 o9 g9;have O9:=hid o9;have X9:Hid (Ext w1 v9):=hid (below_app X8.out g9 O38.out (Nat.le_refl _) (X8.out.size));clear o9 g9)))
    have HMR:Hid (v9.rangeAt w.heap.size 5 (u8s r.mean)):=hid (fun j u hu=>by
     have h:=(BR.out.ext X9.out).cell (5+j);rw[h];unfold revC;have hj:=(List.getElem?_eq_some_iff.1 hu).1
     rw[List.append_assoc,List.getElem?_append_right (by simp),List.getElem?_append_left (by simp;omega)]
     simp only[List.length_cons,List.length_nil]
     rw[show 5+j-(0+1+1+1+1+1)=j by omega]
     exact hu)
    go_upto_region 14 with ((first
     | (refine wpList_load_mid rfl 26 (.tmp 44) (by rfl) w.heap.size 5 (by rfl) (u8s r.mean) _ HMR.out Tryz.underlying26 rfl (winfo_dig.trans (congrArg some HUL.out.symm)) ?_)
     | (go_at_call 67;(with_reducible refine Calls.mono (HI4.out v9 _ ?_) ?_);(exact congrArg (fun z=>Obj.cells z 26) (fold_set _ _ HUL.out));rintro e w10 ⟨⟨A10,a10,rfl,o10⟩,x10⟩;have O10:=hid o10;have X10:Hid (Ext w1 w10):=hid (X9.out.next x10);have O910:=hid (own_below O9.out x10);clear o10 x10)
     | (at_builtin;refine wpList_app rfl (.tmp 43) (.tmp 47) 23 rfl w1.heap.size 5 i0 (.int .u8 0) 1 1 Tryz.underlying23 hi hz0 hz1 hz2 rfl (by omega) B9 (k1+k2+k3) d9 _ rfl O910.out w10.heap.size A10 k4 a10 _ rfl (RdN.of_Rd (Rd.of_own O10.out)) (u8s_one _) (by simp only[maxLen];omega) (by omega) (X10.out.size) ?_;intro B11 d11 v11 o11 g11;have O11:=hid o11;have X11:Hid (Ext w1 v11):=hid (below_app X10.out g11 O910.out (Nat.le_refl _) (X10.out.size));clear o11 g11)))
    have c21:v11.cell? ⟨w.heap.size,21,none⟩=some (.string r.sl):=by
     exact ((BR.out.ext X11.out).cell 21).trans (revC_21 _ _ _ _ HR.out.mean)
    go_wp2_with ((first
     | (go_at_call 68;(with_reducible refine (HI5.out v11).mono ?_);rintro e w12 ⟨⟨A12,a12,rfl,o12⟩,x12⟩;have O12':=hid o12;have X12:Hid (Ext w1 w12):=hid (X11.out.next x12);have O112:=hid (own_below O11.out x12);clear o12 x12)
     | (at_builtin;refine wpList_app rfl (.tmp 49) (.tmp 52) 23 rfl w1.heap.size 5 i0 (.int .u8 0) 1 1 Tryz.underlying23 hi hz0 hz1 hz2 rfl (by omega) B11 (k1+k2+k3+k4) d11 _ rfl O112.out w12.heap.size A12 k5 a12 _ rfl (RdN.of_Rd (Rd.of_own O12'.out)) (u8s_one _) (by simp only[maxLen];omega) (by omega) (X12.out.size) ?_;intro B13 d13 v13 o13 g13;have O13:=hid o13;have X13:Hid (Ext w1 v13):=hid (below_app X12.out g13 O112.out (Nat.le_refl _) (X12.out.size));clear o13 g13)))
    go_ret
    have ho:=O13.out;rw[HU.out,HL.out] at ho;exact⟨⟨B13,d13,by rw[←HL.out];rfl,own_lo ho E1.out.size⟩,E1.out.next X13.out⟩
end
section
attribute [local go_sem ↓] wp_at_zero wp_at_succ
theorem bytes_any (r:Rev)(A:Option Addr)(n c:Nat)(w:World)(hr:RevV w r A n c)(hw:RevW r):Calls Tryz.prog 35 #[.agg (revC r A n c).toArray] w fun e w'=>(∃A' c',e=.returned (.slice A' (encR r).length c')∧w'.ownsRow w.heap.size 5 1 (.slice A' (encR r).length c') (encR r).length (u8s (encR r)))∧Ext w w':=by
 obtain⟨i0,hi,hz0,hz1,hz2⟩:=info_parts winfo_u8;obtain⟨i1,hi',hz0',hz1',hz2'⟩:=info_parts winfo_int;have HR:=hid hr;have HLN:=hid hr.len;have HW:=hid hw;have hn:n≤1000:=by rw[←hr.len];exact hw.many
 have hw3:∀x∈[r.shop,r.seq,r.day],-9223372036854775808≤x∧x≤9223372036854775807:=fun x hx=>by
  simp only[List.mem_cons,List.not_mem_nil,or_false] at hx
  rcases hx with rfl|rfl|rfl
  ·exact hw.shop
  ·exact hw.seq
  ·exact hw.day
 have q1:=encL_le _ hw3 (by simp)
 have q2:=encInt_le9 (wdI r.wd) (by unfold wdI;split<;>decide) (by unfold wdI;split<;>decide)
 have q3:=encL_le _ hw.ops (by rw[opsI_len,HLN.out];omega)
 have q4:(encL idD [r.mean]).length≤25:=by
  have h:=encInt_le9 1 (by decide) (by decide)
  unfold encL idD;simp only[List.length_append,List.flatMap_cons,List.flatMap_nil,List.length_nil,hr.mean,List.length_cons]
  have:(((0+1:Nat):Int))=1:=rfl
  rw[this];omega
 have q5:(encB r.sl).length≤9+r.sl.size:=by
  have h:=encInt_le9 (r.sl.size:Int) (by omega) (by have:=hw.sls;omega)
  unfold encB;rw[List.length_append,bys_length];omega
 rw[opsI_len,HLN.out] at q3;simp only[List.length_cons,List.length_nil] at q1
 obtain⟨e1,he1⟩:∃e,e=encL encInt [r.shop,r.seq,r.day]:=⟨_,rfl⟩
 obtain⟨e2,he2⟩:∃e,e=encInt (wdI r.wd):=⟨_,rfl⟩
 obtain⟨e3,he3⟩:∃e,e=encL encInt (opsI r.ops):=⟨_,rfl⟩
 obtain⟨e4,he4⟩:∃e,e=encL idD [r.mean]:=⟨_,rfl⟩
 obtain⟨e5,he5⟩:∃e,e=encB r.sl:=⟨_,rfl⟩
 have hE:encR r=e1++e2++e3++e4++e5:=by rw[he1,he2,he3,he4,he5];rfl
 rw[←he1] at q1;rw[←he2] at q2;rw[←he3] at q3;rw[←he4] at q4;rw[←he5] at q5;obtain⟨k1,hk1⟩:∃k,k=e1.length:=⟨_,rfl⟩
 obtain⟨k2,hk2⟩:∃k,k=e2.length:=⟨_,rfl⟩
 obtain⟨k3,hk3⟩:∃k,k=e3.length:=⟨_,rfl⟩
 obtain⟨k4,hk4⟩:∃k,k=e4.length:=⟨_,rfl⟩
 obtain⟨k5,hk5⟩:∃k,k=e5.length:=⟨_,rfl⟩
 rw[←hk1] at q1;rw[←hk2] at q2;rw[←hk3] at q3;rw[←hk4] at q4;rw[←hk5] at q5;have q5':k5≤1000000009:=by have:=hw.sls;omega
 have q3':k3≤27009:=by omega
 have HL:Hid (k1+k2+k3+k4+k5=(encR r).length):=hid (by rw[hE];simp only[List.length_append];omega)
 have HU:Hid (u8s e1++u8s e2++u8s e3++u8s e4++u8s e5=u8s (encR r)):=hid (by rw[hE];simp only[u8s_append])
 have HI1:Hid (∀W:World,Calls Tryz.prog 74 #[.slice (some ⟨W.heap.size,0,none⟩) 3 3] (W.alloc (.cells #[.int .i64 r.shop,.int .i64 r.seq,.int .i64 r.day] 3)) fun e w'=>(∃A c,e=.returned (.slice A k1 c)∧w'.ownsRow W.heap.size 5 1 (.slice A k1 c) k1 (u8s e1))∧Ext W w'):=hid (fun W=>by
  have hf:=(Blk.fresh W 3 [.int .i64 r.shop,.int .i64 r.seq,.int .i64 r.day]).rd rfl;have h:=rints_any [r.shop,r.seq,r.day] (some ⟨W.heap.size,0,none⟩) 3 3 (W.alloc (.cells #[.int .i64 r.shop,.int .i64 r.seq,.int .i64 r.day] 3)) hf hw3 (by rw[←he1,←hk1];omega) (by decide)
  rw[←he1,←hk1] at h;refine h.mono ?_
  rintro e w' ⟨⟨A,c,rfl,ho⟩,hB⟩
  exact⟨⟨A,c,rfl,own_lo ho (by simp)⟩,((Ext.refl W).alloc _).next hB⟩)
 have HI2:Hid (∀W:World,Calls Tryz.prog 52 #[.int .i64 (wdI r.wd)] W fun e w'=>(∃A c,e=.returned (.slice A k2 c)∧w'.ownsRow W.heap.size 5 1 (.slice A k2 c) k2 (u8s e2))∧Below W.heap.size W w'):=hid (fun W=>by
  have h:=rintL_any (wdI r.wd) W (by unfold wdI;split<;>decide) (by unfold wdI;split<;>decide)
  rw[←he2,←hk2] at h;exact h)
 have HI3:Hid (∀(W:World) (A:Option Addr) (c:Nat),Rd W W.heap.size A (3*n) ((opsI r.ops).map (Value.int .i64))→Calls Tryz.prog 74 #[.slice A (3*n) c] W fun e w'=>(∃A c,e=.returned (.slice A k3 c)∧w'.ownsRow W.heap.size 5 1 (.slice A k3 c) k3 (u8s e3))∧Below W.heap.size W w'):=hid (fun W A c hA=>by
  have h:=rints_any (opsI r.ops) A (3*n) c W hA hw.ops (by rw[←he3,←hk3];omega) (by omega)
  rw[←he3,←hk3] at h;exact h)
 have HI4:Hid (∀(W:World) (o:Obj),o=.cells (u8s r.mean).toArray 26→Calls Tryz.prog 75 #[.slice (some ⟨W.heap.size,0,none⟩) 1 1] (W.alloc o) fun e w'=>(∃A c,e=.returned (.slice A k4 c)∧w'.ownsRow W.heap.size 5 1 (.slice A k4 c) k4 (u8s e4))∧Ext W w'):=hid (fun W o ho=>by
  have hul:(u8s r.mean).length=16:=by rw[u8s_length,hr.mean]
  have hA:RdN (W.alloc o) (W.alloc o).heap.size 16 (some ⟨W.heap.size,0,none⟩) 1 (celD [r.mean]):=by
   rw[show celD [r.mean]=u8s r.mean from by simp [celD],World.size_alloc]
   exact RdN.fresh _ _ _ 16 1 ho rfl hul
  have h:=rdigests_any [r.mean] (some ⟨W.heap.size,0,none⟩) 1 1 (W.alloc o) hA (fun d hd=>by rw[List.mem_singleton] at hd;subst hd;exact⟨hr.mean,hr.mbyt⟩) rfl (by decide)
  rw[←he4,←hk4] at h;refine h.mono ?_
  rintro e w' ⟨⟨A,c,rfl,ho⟩,hB⟩
  exact⟨⟨A,c,rfl,own_lo ho (by simp)⟩,((Ext.refl W).alloc _).next hB⟩)
 have HI5:Hid (∀W:World,Calls Tryz.prog 76 #[.string r.sl] W fun e w'=>(∃A c,e=.returned (.slice A k5 c)∧w'.ownsRow W.heap.size 5 1 (.slice A k5 c) k5 (u8s e5))∧Below W.heap.size W w'):=hid (fun W=>by
  have h:=rbytes_any r.sl W (by have:=hw.sls;omega)
  rw[←he5,←hk5] at h;exact h)
 have HUL:Hid ((u8s r.mean).length=16):=hid (by rw[u8s_length,hr.mean])
 have hl16:=HUL.out;have HWD:Hid (wdI r.wd=if r.wd then 1 else 0):=hid rfl
 clear hr hw hw3 he1 he2 he3 he4 he5 hE hk1 hk2 hk3 hk4 hk5 q3 q5;go_enter Tryz.func35,Tryz.ntmps35
 go_upto_region 1 with fail
 obtain⟨w1,hw1⟩:∃x,x=w.alloc (.cells (revC r A n c).toArray 28):=⟨_,rfl⟩
 change Code.wp _ _ _ _ (w.alloc (.cells (revC r A n c).toArray 28))
 rw[←hw1];have E1:Hid (Ext w w1):=hid (by rw[hw1];exact (Ext.refl w).alloc _)
 have BR:Hid (Blk w1 w.heap.size 28 (revC r A n c)):=hid (by rw[hw1];exact Blk.fresh' _ _ _ _ _ rfl rfl)
 clear hw1;obtain⟨c0,c1,c2,-,-⟩:=rev_cell BR.out;go_upto_region 2 with ((go_at_call 74;(with_reducible refine (HI1.out w1).mono ?_);rintro e w2 ⟨⟨A1,a1,rfl,o1⟩,x1⟩;have O1:=hid o1;have X1:Hid (Ext w1 w2):=hid x1;clear o1 x1;have c3:w2.cell? ⟨w.heap.size,3,none⟩=some (.bool r.wd):=(BR.out.ext X1.out).cell 3))
 clear c0 c1 c2;go_upto_if 15 with fail
 go_cut [3] from 15 to 21 (fun s wx=>∃A c,s=.slice A (k1+k2) c∧wx.ownsRow w1.heap.size 5 1 (.slice A (k1+k2) c) (k1+k2) (u8s e1++u8s e2)∧Ext w1 wx)
 case first =>
  obtain⟨b,hb⟩:∃b,b=r.wd:=⟨_,rfl⟩
  have HB1:Hid (b=true→wdI r.wd=1):=hid (fun h=>by rw[HWD.out,←hb,h];rfl)
  have HB0:Hid (b=false→wdI r.wd=0):=hid (fun h=>by rw[HWD.out,←hb,h];rfl)
  rw[←hb];clear c3 hb
  cases b
  ·have HI6:Hid (∀W:World,Calls Tryz.prog 52 #[.int .i64 0] W fun e w'=>(∃A c,e=.returned (.slice A k2 c)∧w'.ownsRow W.heap.size 5 1 (.slice A k2 c) k2 (u8s e2))∧Below W.heap.size W w'):=hid (fun W=>by have h:=HI2.out W;rw[HB0.out rfl] at h;exact h)
   clear HB0 HB1
   go_wp2_with ((first
    | (go_at_call 52;(with_reducible refine (HI6.out w2).mono ?_);rintro e w3 ⟨⟨A2,a2,rfl,o2⟩,x2⟩;have O2:=hid o2;have X2:Hid (Ext w1 w3):=hid (X1.out.next x2);have O12:=hid (own_below O1.out x2);clear o2 x2)
    | (at_builtin;refine wpList_app rfl (.tmp 19) (.tmp 20) 23 rfl w1.heap.size 5 i0 (.int .u8 0) 1 1 Tryz.underlying23 hi hz0 hz1 hz2 rfl (by omega) A1 (k1) a1 _ rfl O12.out w3.heap.size A2 k2 a2 _ rfl (RdN.of_Rd (Rd.of_own O2.out)) (u8s_one _) (by simp only[maxLen];omega) (by omega) (X2.out.size) ?_;intro B3 d3 v3 o3 g3;have O3:=hid o3;have X3:Hid (Ext w1 v3):=hid (below_app X2.out g3 O12.out (Nat.le_refl _) (X2.out.size));clear o3 g3)))
   go_meet
   case rel=>exact⟨B3,d3,rfl,O3.out,X3.out⟩
  ·have HI6:Hid (∀W:World,Calls Tryz.prog 52 #[.int .i64 1] W fun e w'=>(∃A c,e=.returned (.slice A k2 c)∧w'.ownsRow W.heap.size 5 1 (.slice A k2 c) k2 (u8s e2))∧Below W.heap.size W w'):=hid (fun W=>by have h:=HI2.out W;rw[HB1.out rfl] at h;exact h)
   clear HB0 HB1
   go_wp2_with ((first
    | (go_at_call 52;(with_reducible refine (HI6.out w2).mono ?_);rintro e w3 ⟨⟨A2,a2,rfl,o2⟩,x2⟩;have O2:=hid o2;have X2:Hid (Ext w1 w3):=hid (X1.out.next x2);have O12:=hid (own_below O1.out x2);clear o2 x2)
    | (at_builtin;refine wpList_app rfl (.tmp 16) (.tmp 17) 23 rfl w1.heap.size 5 i0 (.int .u8 0) 1 1 Tryz.underlying23 hi hz0 hz1 hz2 rfl (by omega) A1 (k1) a1 _ rfl O12.out w3.heap.size A2 k2 a2 _ rfl (RdN.of_Rd (Rd.of_own O2.out)) (u8s_one _) (by simp only[maxLen];omega) (by omega) (X2.out.size) ?_;intro B3 d3 v3 o3 g3;have O3:=hid o3;have X3:Hid (Ext w1 v3):=hid (below_app X2.out g3 O12.out (Nat.le_refl _) (X2.out.size));clear o3 g3)))
   go_meet
   case rel=>exact⟨B3,d3,rfl,O3.out,X3.out⟩
 case rest =>
  obtain⟨B3,d3,hs3,ho3,hx3⟩:=hcut;subst hs3;obtain⟨v0,rfl⟩:∃x:World,x=wc:=⟨_,rfl⟩
  have O3:=hid ho3;have X3:=hid hx3;clear ho3 hx3 c3;go_upto_region 7 with fail
  go_loopw [5,4] (fun i s4 wr=>∃(t m:Nat) (A:Option Addr) (c:Nat),t≤n∧Hid (m=3*t)∧i=.int .i64 (t:Int)∧s4=.slice A m c∧wr.ownsRow v0.heap.size 3 1 (.slice A m c) m ((opsI (r.ops.take t)).map (Value.int .i64))∧Ext v0 wr) (fun i _ _=>n-(intOf i).toNat)
  case atStart=>exact⟨0,0,none,0,by omega,hid rfl,rfl,rfl,World.ownsRow_nil _ _ _ _,Ext.refl _⟩
  case round =>
   obtain⟨t,m,A5,c5,ht,HM,rfl,rfl,hO,hE⟩:=hrel;have O5:=hid hO;have EO:=hid hE;clear hO hE;obtain⟨wo,rfl⟩:∃x:World,x=wr:=⟨_,rfl⟩
   have c4:wo.cell? ⟨w.heap.size,4,none⟩=some (.slice A n c):=(BR.out.ext (X3.out.next EO.out)).cell 4
   by_cases hlt:t<n
   ·obtain⟨g,p,hA,hg,hcc⟩:=HR.out.row.2 (by omega)
    subst hA;obtain⟨⟨s,q,z⟩,hy⟩:∃y,y=r.ops.getD t rid0:=⟨_,rfl⟩
    have hy2:r.ops[t]?=some ⟨s,q,z⟩:=by rw[hy];exact getD_of (by rw[HLN.out];exact hlt)
    have HRG:Hid (∀W,Ext w W→W.rangeAt g (p+t*3) [.int .i64 s,.int .i64 q,.int .i64 z]):=hid (fun W hW=>ids_range (L:=r.ops) (x:=⟨s,q,z⟩) (fun j u hu=>(hW.cell (p:=⟨g,p+j,none⟩) hg).trans (hcc j u hu)) hy2)
    have HTK:Hid ((opsI (r.ops.take (t+1))).map (Value.int .i64)=(opsI (r.ops.take t)).map (Value.int .i64)++[.int .i64 s,.int .i64 q,.int .i64 z]):=hid (by rw[opsI_snoc hy2,List.map_append];rfl)
    have hm3:m≤3000:=by have:=HM.out;omega
    have hltI:(t:Int)<(n:Int):=by omega
    clear hcc hy hy2;go_upto_region 9 with fail
    clear c4
    refine wp_region_flowG 20 ?FW9 (fun us=>?_) (by kernel_rfl) (by kernel_rfl) (fun a b=>Ext a b) Ext.refl (fun h1 h2=>h1.next h2) (fun i v W=>match i with
     | 0=>v=.slice A5 m c5
     | 1=>v=.pointer (some ⟨w.heap.size,4,none⟩)
     | 2=>v=.slice (some ⟨g,p,none⟩) n c
     | 3=>v=.int .i64 (t:Int)
     | 4=>v=.pointer (some ⟨g,p+t*3,none⟩)
     | 5=>v=.pointer (some ⟨g,p+t*3,none⟩)
     | 6=>v=.int .i64 s
     | 7=>v=.pointer (some ⟨w.heap.size,4,none⟩)
     | 8=>v=.slice (some ⟨g,p,none⟩) n c
     | 9=>v=.int .i64 (t:Int)
     | 10=>v=.pointer (some ⟨g,p+t*3,none⟩)
     | 11=>v=.pointer (some ⟨g,p+t*3+1,none⟩)
     | 12=>v=.int .i64 q
     | 13=>v=.pointer (some ⟨w.heap.size,4,none⟩)
     | 14=>v=.slice (some ⟨g,p,none⟩) n c
     | 15=>v=.int .i64 (t:Int)
     | 16=>v=.pointer (some ⟨g,p+t*3,none⟩)
     | 17=>v=.pointer (some ⟨g,p+t*3+2,none⟩)
     | 18=>v=.int .i64 z
     | 19=>∃b,v=.slice (some ⟨b,0,none⟩) 3 3∧RdN W W.heap.size 1 (some ⟨b,0,none⟩) 3 [.int .i64 s,.int .i64 q,.int .i64 z]
     | _=>True) ?_ ?_
    case refine_1 =>
     simp only[List.take_succ_cons,List.take_zero,flowAct,Nat.zero_add,Nat.reduceAdd,Act.put,List.setIfInBounds_toArray,List.set_cons_succ,List.set_cons_zero]
     rfl
    ·simp only[List.take_succ_cons,List.take_zero,flowStepsG]
     refine⟨?_,?_,?_,?_,?_,?_,?_,?_,?_,?_,?_,?_,?_,?_,?_,?_,?_,?_,?_,?_,trivial⟩
     ·intro us W K HE hd HK
      dsimp only at HK⊢;clear hd;go_wp2_with fail
      exact K_at (Kz HK) (by kernel_rfl)
     ·intro us W K HE hd HK
      dsimp only at HK⊢;clear hd;go_wp2_with fail
      exact K_at (Kz HK) (by kernel_rfl)
     ·intro us W K HE hd HK
      have d1:=hd 1 (by kernel_rfl)
      have xk:W.cell? ⟨w.heap.size,4,none⟩=some (.slice (some ⟨g,p,none⟩) n c):=(BR.out.ext ((X3.out.next EO.out).next (sg_undrew HE.out))).cell 4
      dsimp only at HK⊢;rw[d1] at HK⊢;clear hd d1;go_wp2_with fail
      exact K_at (Kz HK) (by kernel_rfl)
     ·intro us W K HE hd HK
      dsimp only at HK⊢;clear hd;go_wp2_with fail
      exact K_at (Kz HK) (by kernel_rfl)
     ·intro us W K HE hd HK
      have d2:=hd 2 (by kernel_rfl)
      have d3:=hd 3 (by kernel_rfl)
      dsimp only at HK⊢;rw[d2,d3] at HK⊢;clear hd d2 d3;go_wp2_with fail
      exact K_at (Kz HK) (by kernel_rfl)
     ·intro us W K HE hd HK
      have d4:=hd 4 (by kernel_rfl)
      dsimp only at HK⊢;rw[d4] at HK⊢;clear hd d4;go_wp2_with fail
      exact K_at (Kz HK) (by kernel_rfl)
     ·intro us W K HE hd HK
      have d5:=hd 5 (by kernel_rfl)
      have xk:W.cell? ⟨g,p+t*3,none⟩=some (.int .i64 s):=HRG.out W ((E1.out.next (X3.out.next EO.out)).next (sg_undrew HE.out)) 0 _ rfl
      dsimp only at HK⊢;rw[d5] at HK⊢;clear hd d5;go_wp2_with fail
      exact K_at (Kz HK) (by kernel_rfl)
     ·intro us W K HE hd HK
      dsimp only at HK⊢;clear hd;go_wp2_with fail
      exact K_at (Kz HK) (by kernel_rfl)
     ·intro us W K HE hd HK
      have d7:=hd 7 (by kernel_rfl)
      have xk:W.cell? ⟨w.heap.size,4,none⟩=some (.slice (some ⟨g,p,none⟩) n c):=(BR.out.ext ((X3.out.next EO.out).next (sg_undrew HE.out))).cell 4
      dsimp only at HK⊢;rw[d7] at HK⊢;clear hd d7;go_wp2_with fail
      exact K_at (Kz HK) (by kernel_rfl)
     ·intro us W K HE hd HK
      dsimp only at HK⊢;clear hd;go_wp2_with fail
      exact K_at (Kz HK) (by kernel_rfl)
     ·intro us W K HE hd HK
      have d8:=hd 8 (by kernel_rfl)
      have d9:=hd 9 (by kernel_rfl)
      dsimp only at HK⊢;rw[d8,d9] at HK⊢;clear hd d8 d9;go_wp2_with fail
      exact K_at (Kz HK) (by kernel_rfl)
     ·intro us W K HE hd HK
      have d10:=hd 10 (by kernel_rfl)
      dsimp only at HK⊢;rw[d10] at HK⊢;clear hd d10;go_wp2_with fail
      exact K_at (Kz HK) (by kernel_rfl)
     ·intro us W K HE hd HK
      have d11:=hd 11 (by kernel_rfl)
      have xk:W.cell? ⟨g,p+t*3+1,none⟩=some (.int .i64 q):=HRG.out W ((E1.out.next (X3.out.next EO.out)).next (sg_undrew HE.out)) 1 _ rfl
      dsimp only at HK⊢;rw[d11] at HK⊢;clear hd d11;go_wp2_with fail
      exact K_at (Kz HK) (by kernel_rfl)
     ·intro us W K HE hd HK
      dsimp only at HK⊢;clear hd;go_wp2_with fail
      exact K_at (Kz HK) (by kernel_rfl)
     ·intro us W K HE hd HK
      have d13:=hd 13 (by kernel_rfl)
      have xk:W.cell? ⟨w.heap.size,4,none⟩=some (.slice (some ⟨g,p,none⟩) n c):=(BR.out.ext ((X3.out.next EO.out).next (sg_undrew HE.out))).cell 4
      dsimp only at HK⊢;rw[d13] at HK⊢;clear hd d13;go_wp2_with fail
      exact K_at (Kz HK) (by kernel_rfl)
     ·intro us W K HE hd HK
      dsimp only at HK⊢;clear hd;go_wp2_with fail
      exact K_at (Kz HK) (by kernel_rfl)
     ·intro us W K HE hd HK
      have d14:=hd 14 (by kernel_rfl)
      have d15:=hd 15 (by kernel_rfl)
      dsimp only at HK⊢;rw[d14,d15] at HK⊢;clear hd d14 d15;go_wp2_with fail
      exact K_at (Kz HK) (by kernel_rfl)
     ·intro us W K HE hd HK
      have d16:=hd 16 (by kernel_rfl)
      dsimp only at HK⊢;rw[d16] at HK⊢;clear hd d16;go_wp2_with fail
      exact K_at (Kz HK) (by kernel_rfl)
     ·intro us W K HE hd HK
      have d17:=hd 17 (by kernel_rfl)
      have xk:W.cell? ⟨g,p+t*3+2,none⟩=some (.int .i64 z):=HRG.out W ((E1.out.next (X3.out.next EO.out)).next (sg_undrew HE.out)) 2 _ rfl
      dsimp only at HK⊢;rw[d17] at HK⊢;clear hd d17;go_wp2_with fail
      exact K_at (Kz HK) (by kernel_rfl)
     ·intro us W K HE hd HK
      have d6:=hd 6 (by kernel_rfl)
      have d12:=hd 12 (by kernel_rfl)
      have d18:=hd 18 (by kernel_rfl)
      dsimp only at HK⊢;rw[d6,d12,d18] at HK⊢;clear hd d6 d12 d18;go_wp2_with fail
      exact K_at (HK.out (.slice (some ⟨W.heap.size,0,none⟩) 3 3) (W.alloc (.cells #[.int .i64 s,.int .i64 q,.int .i64 z] 3)) (fun W2 h2=>⟨_,rfl,((RdN.fresh (W:=W) (e:=3) [.int .i64 s,.int .i64 q,.int .i64 z] _ W.heap.size 1 3 rfl rfl rfl).below h2 (by rw[World.size_alloc];exact Nat.le_refl _)).more (Nat.le_trans (by rw[World.size_alloc];exact Nat.le_refl _) h2.size)⟩) ((Ext.refl W).alloc _)) (by kernel_rfl)
    ·intro us W hE hd
     try dsimp only
     obtain⟨b9,d19,hr9⟩:=hd 19 (by decide)
     have d0:=hd 0 (by decide)
     simp only[List.drop_succ_cons,List.drop_zero]
     rw[d19,d0];have EW:=hid (EO.out.next (sg_undrew hE));have O6:=hid (own_below O5.out (sg_undrew hE));have HR9:=hid hr9;clear hd hE d19 d0 hr9;go_wp2_with ((at_builtin;refine wpList_app rfl (.tmp 29) (.tmp 48) 22 rfl v0.heap.size 3 i1 (.int .i64 0) 1 8 Tryz.underlying22 hi' hz0' hz1' hz2' rfl (by omega) A5 m c5 _ rfl O6.out W.heap.size (some ⟨b9,0,none⟩) 3 3 [.int .i64 s,.int .i64 q,.int .i64 z] rfl HR9.out (idC_one ⟨s,q,z⟩) (by simp only[maxLen];omega) (by omega) (by have:=EW.out.size;omega) ?_;intro A7 c7 w7 o7 g7;have hb7:=below_app EW.out g7 O6.out (Nat.le_refl _) (by have:=EW.out.size;omega)))
     go_roundw
     case rel=>exact⟨t+1,m+3,A7,c7,by omega,hid (by have:=HM.out;omega),by go_num,rfl,by rw[HTK.out];exact o7,hb7⟩
     case measure=>simp [intOf];omega
   ·obtain rfl:t=n:=by omega
    have HTF:Hid (opsI (r.ops.take t)=opsI r.ops):=hid (by rw[List.take_of_length_le (by rw[HLN.out];omega)])
    have HM':=hid HM.out;have hmm:=HM.out;subst hmm;have HRO:Hid (Rd wo wo.heap.size A5 (3*t) ((opsI r.ops).map (Value.int .i64))):=hid (by have h:=Rd.of_own O5.out;rw[HTF.out] at h;exact h)
    have O30:=hid (own_below O3.out EO.out);have X30:=hid (X3.out.next EO.out)
    go_upto_region 11 with ((first
     | (go_at_call 74;(with_reducible refine (HI3.out wo A5 c5 HRO.out).mono ?_);rintro e w8 ⟨⟨A8,a8,rfl,o8⟩,x8⟩;have O8:=hid o8;have X8:Hid (Ext w1 w8):=hid (X30.out.next x8);have O38:=hid (own_below O30.out x8);clear o8 x8)
     | (at_builtin;refine wpList_app rfl (.tmp 50) (.tmp 52) 23 rfl w1.heap.size 5 i0 (.int .u8 0) 1 1 Tryz.underlying23 hi hz0 hz1 hz2 rfl (by omega) B3 (k1+k2) d3 _ rfl O38.out w8.heap.size A8 k3 a8 _ rfl (RdN.of_Rd (Rd.of_own O8.out)) (u8s_one _) (by simp only[maxLen];omega) (by omega) (X8.out.size) ?_;intro B9 d9 v9 o9 g9;have O9:=hid o9;have X9:Hid (Ext w1 v9):=hid (below_app X8.out g9 O38.out (Nat.le_refl _) (X8.out.size));clear o9 g9)))
    have HMR:Hid (v9.rangeAt w.heap.size 5 (u8s r.mean)):=hid (fun j u hu=>by
     have h:=(BR.out.ext X9.out).cell (5+j);rw[h];unfold revC;have hj:=(List.getElem?_eq_some_iff.1 hu).1
     rw[List.append_assoc,List.getElem?_append_right (by simp),List.getElem?_append_left (by simp;omega)]
     simp only[List.length_cons,List.length_nil]
     rw[show 5+j-(0+1+1+1+1+1)=j by omega]
     exact hu)
    go_upto_region 12 with ((first
     | (refine wpList_load_mid rfl 26 (.tmp 55) (by rfl) w.heap.size 5 (by rfl) (u8s r.mean) _ HMR.out Tryz.underlying26 rfl (winfo_dig.trans (congrArg some HUL.out.symm)) ?_)
     | (go_at_call 75;(with_reducible refine Calls.mono (HI4.out v9 _ ?_) ?_);(exact congrArg (fun z=>Obj.cells z 26) (fold_set _ _ HUL.out));rintro e w10 ⟨⟨A10,a10,rfl,o10⟩,x10⟩;have O10:=hid o10;have X10:Hid (Ext w1 w10):=hid (X9.out.next x10);have O910:=hid (own_below O9.out x10);clear o10 x10)
     | (at_builtin;refine wpList_app rfl (.tmp 54) (.tmp 58) 23 rfl w1.heap.size 5 i0 (.int .u8 0) 1 1 Tryz.underlying23 hi hz0 hz1 hz2 rfl (by omega) B9 (k1+k2+k3) d9 _ rfl O910.out w10.heap.size A10 k4 a10 _ rfl (RdN.of_Rd (Rd.of_own O10.out)) (u8s_one _) (by simp only[maxLen];omega) (by omega) (X10.out.size) ?_;intro B11 d11 v11 o11 g11;have O11:=hid o11;have X11:Hid (Ext w1 v11):=hid (below_app X10.out g11 O910.out (Nat.le_refl _) (X10.out.size));clear o11 g11)))
    have c21:v11.cell? ⟨w.heap.size,21,none⟩=some (.string r.sl):=by
     exact ((BR.out.ext X11.out).cell 21).trans (revC_21 _ _ _ _ HR.out.mean)
    go_wp2_with ((first
     | (go_at_call 76;(with_reducible refine (HI5.out v11).mono ?_);rintro e w12 ⟨⟨A12,a12,rfl,o12⟩,x12⟩;have O12':=hid o12;have X12:Hid (Ext w1 w12):=hid (X11.out.next x12);have O112:=hid (own_below O11.out x12);clear o12 x12)
     | (at_builtin;refine wpList_app rfl (.tmp 60) (.tmp 63) 23 rfl w1.heap.size 5 i0 (.int .u8 0) 1 1 Tryz.underlying23 hi hz0 hz1 hz2 rfl (by omega) B11 (k1+k2+k3+k4) d11 _ rfl O112.out w12.heap.size A12 k5 a12 _ rfl (RdN.of_Rd (Rd.of_own O12'.out)) (u8s_one _) (by simp only[maxLen];omega) (by omega) (X12.out.size) ?_;intro B13 d13 v13 o13 g13;have O13:=hid o13;have X13:Hid (Ext w1 v13):=hid (below_app X12.out g13 O112.out (Nat.le_refl _) (X12.out.size));clear o13 g13)))
    go_ret
    have ho:=O13.out;rw[HU.out,HL.out] at ho;exact⟨⟨B13,d13,by rw[←HL.out];rfl,own_lo ho E1.out.size⟩,E1.out.next X13.out⟩
end
end Go.Proofs.YtjeecfjeooehhaaGreatDoor