/- IDs: the small functions of review and of its reference. Conditions: none. -/
import Derived.Test.YtjeecfjeooehhaaGreatDoorM3
import Derived.Test.YtjeecfjeooehhaaGreatDoorM4
import Derived.Deep.DeepCutAuto
import Derived.Deep.CutBlock
set_option linter.unusedSimpArgs false
set_option linter.unusedVariables false
set_option maxHeartbeats 16000000
set_option maxRecDepth 100000
namespace Go.Proofs.YtjeecfjeooehhaaGreatDoor
open Go.RowKit
open Lib (hid)
section
attribute [local go_sem ↓] wp_at_zero wp_at_succ
structure Rid where
 s:Int
 q:Int
 i:Int
deriving DecidableEq
def idC (x:Rid):List Value:=[.int .i64 x.s,.int .i64 x.q,.int .i64 x.i]
theorem idC_one (x:Rid):∀v∈idC x,v.oneCell'=true:=fun v hv=>by
 simp only[idC,List.mem_cons,List.not_mem_nil,or_false] at hv
 rcases hv with rfl|rfl|rfl<;>rfl
theorem info_id:(Tryz.prog.info? 68).map (·.size)=some 3:=by kernel_rfl
def winB (n lo hi:Int):Bool:=decide (lo≤n)&&decide (n≤hi)
theorem within_any (n lo hi:Int)(w:World):Calls Tryz.prog 48 #[.int .i64 n,.int .i64 lo,.int .i64 hi] w fun e w'=>e=.returned (.bool (winB n lo hi))∧w=w':=by
 unfold winB;by_cases h:lo≤n
 ·have h1:decide (lo≤n)=true:=decide_eq_true h
  rw[h1,Bool.true_and];go_enter Tryz.func48,Tryz.ntmps48
  go_wp2_with fail
  go_ret
  exact⟨rfl,rfl⟩
 ·have h1:decide (lo≤n)=false:=decide_eq_false h
  rw[h1,Bool.false_and];go_enter Tryz.func48,Tryz.ntmps48
  go_wp2_with fail
  go_ret
  exact⟨rfl,rfl⟩
def rnumB (s q:Int):Bool:=winB s 0 7&&winB q 1 16
theorem numbered_any (s q:Int)(w:World):Calls Tryz.prog 47 #[.int .i64 s,.int .i64 q] w fun e w'=>e=.returned (.bool (rnumB s q))∧w=w':=by
 unfold rnumB;have H1:=hid (within_any s 0 7 w);have H2:=hid (within_any q 1 16 w);generalize winB s 0 7=a at *
 generalize winB q 1 16=b at *
 cases a
 ·rw[Bool.false_and]
  go_enter Tryz.func47,Tryz.ntmps47
  go_wp2_with (go_at_call 48;(with_reducible refine H1.out.mono ?_);rintro e w3 ⟨rfl,rfl⟩)
  go_ret
  exact⟨rfl,rfl⟩
 ·rw[Bool.true_and]
  go_enter Tryz.func47,Tryz.ntmps47
  go_wp2_with (first
   | (go_at_call 48;(with_reducible refine H1.out.mono ?_);rintro e w3 ⟨rfl,rfl⟩)
   | (go_at_call 48;(with_reducible refine H2.out.mono ?_);rintro e w3 ⟨rfl,rfl⟩))
  go_ret
  exact⟨rfl,rfl⟩
def idB (x:Rid):Bool:=rnumB x.s x.q&&winB x.i 0 31
theorem idB_iff (x:Rid):idB x=true↔0≤x.s∧x.s≤7∧1≤x.q∧x.q≤16∧0≤x.i∧x.i≤31:=by
 unfold idB rnumB winB;simp only[Bool.and_eq_true,decide_eq_true_eq]
 omega
def lessB (a b:Rid):Bool:=if a.s≠b.s then decide (a.s<b.s) else if a.q≠b.q then decide (a.q<b.q) else decide (a.i<b.i)
theorem less_any (a b:Rid)(w:World):Calls Tryz.prog 64 #[.agg #[.int .i64 a.s,.int .i64 a.q,.int .i64 a.i],.agg #[.int .i64 b.s,.int .i64 b.q,.int .i64 b.i]] w fun e w'=>e=.returned (.bool (lessB a b))∧Ext w w':=by
 obtain⟨s,q,i⟩:=a;obtain⟨s',q',i'⟩:=b;unfold lessB;dsimp only;go_enter Tryz.func64,Tryz.ntmps64
 by_cases h1:s=s'
 ·by_cases h2:q=q'
  ·go_wp2_with fail
   go_ret
   exact⟨by simp [h1,h2],((Ext.refl w).alloc _).alloc _⟩
  ·go_wp2_with fail
   go_ret
   exact⟨by simp [h1,h2],((Ext.refl w).alloc _).alloc _⟩
 ·go_wp2_with fail
  go_ret
  exact⟨by simp [h1],((Ext.refl w).alloc _).alloc _⟩
def cmpI (x y:Int):Int:=if x<y then -1 else if y<x then 1 else 0
theorem nan_any (x:Int)(w:World):Calls Tryz.prog 127 #[.int .i64 x] w fun e w'=>e=.returned (.bool false)∧w=w':=by
 go_enter Tryz.func127,Tryz.ntmps127
 go_wp2_with fail
 go_ret
 exact⟨by simp,rfl⟩
theorem compare_any (x y:Int)(w:World):Calls Tryz.prog 90 #[.int .i64 x,.int .i64 y] w fun e w'=>e=.returned (.int .i64 (cmpI x y))∧w=w':=by
 have hc1:x<y→cmpI x y=-1:=fun h=>by unfold cmpI;rw[if_pos h]
 have hc2:y<x→cmpI x y=1:=fun h=>by unfold cmpI;rw[if_neg (by omega),if_pos h]
 have hc3:x=y→cmpI x y=0:=fun h=>by unfold cmpI;rw[if_neg (by omega),if_neg (by omega)]
 have HC1:=hid hc1;have HC2:=hid hc2;have HC3:=hid hc3;have H1:=hid (nan_any x w);have H2:=hid (nan_any y w);clear hc1 hc2 hc3;go_enter Tryz.func90,Tryz.ntmps90
 go_upto_region 9 with (first
  | (go_at_call 127;(with_reducible refine H1.out.mono ?_);rintro e w3 ⟨rfl,rfl⟩)
  | (go_at_call 127;(with_reducible refine H2.out.mono ?_);rintro e w3 ⟨rfl,rfl⟩))
 rcases (show x<y∨y<x∨x=y by omega) with h|h|h
 ·have HC:=hid (HC1.out h)
  go_wp2_with fail
  go_ret
  exact⟨by rw[HC.out];rfl,rfl⟩
 ·have HC:=hid (HC2.out h)
  have h2:¬x<y:=by omega
  go_wp2_with fail
  go_ret
  exact⟨by rw[HC.out];rfl,rfl⟩
 ·have HC:=hid (HC3.out h)
  have h2:¬x<y:=by omega
  have h3:¬y<x:=by omega
  clear h;go_wp2_with fail
  go_ret
  exact⟨by rw[HC.out];rfl,rfl⟩
def orI (l:List Int):Int:=(l.find? fun x=>decide (x≠0)).getD 0
theorem orI_here {l:List Int}{t:Nat}(h:∀j,j<t→l.getD j 0=0)(ht:t<l.length)(hx:l.getD t 0≠0):orI l=l.getD t 0:=by
 induction l generalizing t with
 | nil=>simp at ht
 | cons x l ih =>
  unfold orI
  cases t with
  | zero=>simp at hx⊢;simp [hx]
  | succ t =>
   have h0:=h 0 (by omega)
   simp at h0
   have:=ih (t:=t) (fun j hj=>by have:=h (j+1) (by omega);simpa using this) (by simpa using ht) (by simpa using hx)
   unfold orI at this;simp [h0]
   simpa using this
theorem orI_none {l:List Int}(h:∀j,j<l.length→l.getD j 0=0):orI l=0:=by
 have:l.find? (fun x=>decide (x≠0))=none:=List.find?_eq_none.2 (fun x hx=>by
  obtain⟨j,hj,e⟩:=List.mem_iff_getElem.1 hx;have:=h j hj
  rw[List.getD_eq_getElem?_getD,List.getElem?_eq_getElem hj,e] at this
  simpa using this)
 unfold orI;rw[this];rfl
theorem or_any (l:List Int)(A:Option Addr)(n c:Nat)(w:World)(hl:Rd w w.heap.size A n (l.map (Value.int .i64)))(hn:n≤1000000000):Calls Tryz.prog 89 #[.slice A n c] w fun e w'=>e=.returned (.int .i64 (orI l))∧w=w':=by
 have HL:=hid hl;have HN:Hid (l.length=n):=hid (by simpa using hl.1)
 clear hl;go_enter Tryz.func89,Tryz.ntmps89
 go_wp2_with fail
 go_loopw [8] (fun x wr=>∃t:Nat,t≤n∧x=.int .i64 (t:Int)∧w=wr∧∀j,j<t→l.getD j 0=0) (fun x _=>n-(intOf x).toNat)
 case atStart=>exact⟨0,by omega,rfl,rfl,fun j hj=>by omega⟩
 case round =>
  obtain⟨t,ht,rfl,rfl,hz⟩:=hrel;have HZ:=hid hz;clear hz;by_cases hlt:t<n
  ·obtain⟨b,o,hA,hb,hc⟩:=HL.out.2 (by omega)
   subst hA
   have hg:l[t]?=some (l.getD t 0):=by
    rw[List.getD_eq_getElem?_getD,List.getElem?_eq_getElem (by rw[HN.out];exact hlt)];rfl
   have c0:w.cell? ⟨b,o+t,none⟩=some (.int .i64 (l.getD t 0)):=hc t _ (by rw[List.getElem?_map,hg];rfl)
   have HO:Hid (l.getD t 0≠0→orI l=l.getD t 0):=hid (orI_here HZ.out (by rw[HN.out];exact hlt))
   have HZ2:Hid (l.getD t 0=0→∀j,j<t+1→l.getD j 0=0):=hid (fun h j hj=>by
    rcases Nat.lt_or_ge j t with h1|h1
    ·exact HZ.out j h1
    ·obtain rfl:j=t:=by omega
     exact h)
   clear hc hg;obtain⟨v,hv⟩:∃v,v=l.getD t 0:=⟨_,rfl⟩
   rw[←hv] at c0 HO HZ2;clear hv;by_cases h0:v=0
   ·have HZ3:=hid (HZ2.out h0)
    subst h0;go_wp2_with fail
    exact⟨⟨t+1,by omega,by go_num,trivial,HZ3.out⟩,by simp [intOf];omega⟩
   ·have HO2:=hid (HO.out h0)
    go_wp2_with fail
    go_ret
    exact⟨by rw[HO2.out];rfl,rfl⟩
  ·obtain rfl:t=n:=by omega
   go_wp2_with fail
   go_ret
   exact⟨by rw[orI_none (fun j hj=>HZ.out j (by rw[HN.out] at hj;exact hj))];rfl,rfl⟩
def ordI (a b:Rid):Int:=orI [cmpI a.s b.s,cmpI a.q b.q,cmpI a.i b.i]
theorem orI3 (x y z:Int):orI [x,y,z]=if x≠0 then x else if y≠0 then y else z:=by
 unfold orI;by_cases hx:x=0
 ·by_cases hy:y=0
  ·by_cases hz:z=0
   ·simp [hx,hy,hz]
   ·simp [hx,hy,hz]
  ·simp [hx,hy]
 ·simp [hx]
theorem ordI_less (a b:Rid):lessB a b=decide (ordI a b<0):=by
 unfold lessB ordI;rw[orI3];unfold cmpI;by_cases h1:a.s=b.s
 ·by_cases h2:a.q=b.q
  ·rcases (show a.i<b.i∨b.i<a.i∨a.i=b.i by omega) with h3|h3|h3
   ·simp [h1,h2,h3]
   ·have h4:¬a.i<b.i:=by omega
    simp [h1,h2,h3,h4]
   ·simp [h1,h2,h3]
  ·rcases (show a.q<b.q∨b.q<a.q by omega) with h3|h3
   ·simp [h1,h2,h3]
   ·have h4:¬a.q<b.q:=by omega
    simp [h1,h2,h3,h4]
 ·rcases (show a.s<b.s∨b.s<a.s by omega) with h3|h3
  ·simp [h1,h3]
  ·have h4:¬a.s<b.s:=by omega
   simp [h1,h3,h4]
theorem sg_undrew {w w':World}(h:Ext w.drew w'):Ext w w':=(Ext.refl w).drew.next h
theorem order_any (a b:Rid)(w:World):Calls Tryz.prog 49 #[.agg #[.int .i64 a.s,.int .i64 a.q,.int .i64 a.i],.agg #[.int .i64 b.s,.int .i64 b.q,.int .i64 b.i]] w fun e w'=>e=.returned (.int .i64 (ordI a b))∧Ext w w':=by
 obtain⟨V,hV⟩:∃v,v=ordI a b:=⟨_,rfl⟩
 obtain⟨s,q,z⟩:=a;obtain⟨s',q',z'⟩:=b;obtain⟨c1,hc1⟩:∃c,c=cmpI s s':=⟨_,rfl⟩
 obtain⟨c2,hc2⟩:∃c,c=cmpI q q':=⟨_,rfl⟩
 obtain⟨c3,hc3⟩:∃c,c=cmpI z z':=⟨_,rfl⟩
 have H1:Hid (∀W,Calls Tryz.prog 90 #[.int .i64 s,.int .i64 s'] W fun e w'=>e=.returned (.int .i64 c1)∧W=w'):=hid (fun W=>by rw[hc1];exact compare_any s s' W)
 have H2:Hid (∀W,Calls Tryz.prog 90 #[.int .i64 q,.int .i64 q'] W fun e w'=>e=.returned (.int .i64 c2)∧W=w'):=hid (fun W=>by rw[hc2];exact compare_any q q' W)
 have H3:Hid (∀W,Calls Tryz.prog 90 #[.int .i64 z,.int .i64 z'] W fun e w'=>e=.returned (.int .i64 c3)∧W=w'):=hid (fun W=>by rw[hc3];exact compare_any z z' W)
 have HV:Hid (V=orI [c1,c2,c3]):=hid (by rw[hV,hc1,hc2,hc3];rfl)
 rw[←hV];clear hV hc1 hc2 hc3;go_enter Tryz.func49,Tryz.ntmps49
 go_upto_region 1 with fail
 obtain⟨w2,hw2⟩:∃x,x=(w.alloc (.cells #[.int .i64 s,.int .i64 q,.int .i64 z] 68)).alloc (.cells #[.int .i64 s',.int .i64 q',.int .i64 z'] 68):=⟨_,rfl⟩
 change Code.wp _ _ _ _ ((w.alloc (.cells #[.int .i64 s,.int .i64 q,.int .i64 z] 68)).alloc (.cells #[.int .i64 s',.int .i64 q',.int .i64 z'] 68))
 rw[←hw2];have E2:Hid (Ext w w2):=hid (by rw[hw2];exact ((Ext.refl w).alloc _).alloc _)
 have BA:Hid (Blk w2 w.heap.size 68 [.int .i64 s,.int .i64 q,.int .i64 z]):=hid (by rw[hw2];exact (Blk.fresh' _ _ _ _ _ rfl rfl).alloc _)
 have BB:Hid (Blk w2 (w.heap.size+1) 68 [.int .i64 s',.int .i64 q',.int .i64 z']):=hid (by rw[hw2];exact Blk.fresh' _ _ _ _ _ rfl (by simp))
 clear hw2
 refine wp_region_flowG 17 ?FW1 (fun us=>?_) (by kernel_rfl) (by kernel_rfl) (fun a b=>Ext a b) Ext.refl (fun h1 h2=>h1.next h2) (fun i v W=>match i with
  | 0=>v=.pointer (some ⟨w.heap.size,0,none⟩)
  | 1=>v=.int .i64 s
  | 2=>v=.pointer (some ⟨w.heap.size+1,0,none⟩)
  | 3=>v=.int .i64 s'
  | 4=>v=.int .i64 c1
  | 5=>v=.pointer (some ⟨w.heap.size,1,none⟩)
  | 6=>v=.int .i64 q
  | 7=>v=.pointer (some ⟨w.heap.size+1,1,none⟩)
  | 8=>v=.int .i64 q'
  | 9=>v=.int .i64 c2
  | 10=>v=.pointer (some ⟨w.heap.size,2,none⟩)
  | 11=>v=.int .i64 z
  | 12=>v=.pointer (some ⟨w.heap.size+1,2,none⟩)
  | 13=>v=.int .i64 z'
  | 14=>v=.int .i64 c3
  | 15=>∃g,v=.slice (some ⟨g,0,none⟩) 3 3∧Rd W W.heap.size (some ⟨g,0,none⟩) 3 ([c1,c2,c3].map (Value.int .i64))
  | 16=>v=.int .i64 V
  | _=>True) ?_ ?_
 case refine_1 =>
  simp only[List.take_succ_cons,List.take_zero,flowAct,Nat.zero_add,Nat.reduceAdd,Act.put,List.setIfInBounds_toArray,List.set_cons_succ,List.set_cons_zero]
  rfl
 ·simp only[List.take_succ_cons,List.take_zero,flowStepsG]
  refine⟨?_,?_,?_,?_,?_,?_,?_,?_,?_,?_,?_,?_,?_,?_,?_,?_,?_,trivial⟩
  ·intro us W K HE hd HK
   dsimp only at HK⊢;clear hd;go_wp2_with fail
   exact K_at (Kz HK) (by kernel_rfl)
  ·intro us W K HE hd HK
   have d0:=hd 0 (by kernel_rfl)
   have xk:W.cell? ⟨w.heap.size,0,none⟩=some (.int .i64 s):=(BA.out.ext (sg_undrew HE.out)).cell 0
   dsimp only at HK⊢;rw[d0] at HK⊢;clear hd d0;go_wp2_with fail
   exact K_at (Kz HK) (by kernel_rfl)
  ·intro us W K HE hd HK
   dsimp only at HK⊢;clear hd;go_wp2_with fail
   exact K_at (Kz HK) (by kernel_rfl)
  ·intro us W K HE hd HK
   have d2:=hd 2 (by kernel_rfl)
   have xk:W.cell? ⟨w.heap.size+1,0,none⟩=some (.int .i64 s'):=(BB.out.ext (sg_undrew HE.out)).cell 0
   dsimp only at HK⊢;rw[d2] at HK⊢;clear hd d2;go_wp2_with fail
   exact K_at (Kz HK) (by kernel_rfl)
  ·intro us W K HE hd HK
   have d1:=hd 1 (by kernel_rfl)
   have d3:=hd 3 (by kernel_rfl)
   dsimp only at HK⊢;rw[d1,d3] at HK⊢;clear hd d1 d3;go_wp2_with ((go_at_call 90;(with_reducible refine (H1.out W).mono ?_);rintro e w6 ⟨rfl,rfl⟩))
   exact K_at (Kz HK) (by kernel_rfl)
  ·intro us W K HE hd HK
   dsimp only at HK⊢;clear hd;go_wp2_with fail
   exact K_at (Kz HK) (by kernel_rfl)
  ·intro us W K HE hd HK
   have d5:=hd 5 (by kernel_rfl)
   have xk:W.cell? ⟨w.heap.size,1,none⟩=some (.int .i64 q):=(BA.out.ext (sg_undrew HE.out)).cell 1
   dsimp only at HK⊢;rw[d5] at HK⊢;clear hd d5;go_wp2_with fail
   exact K_at (Kz HK) (by kernel_rfl)
  ·intro us W K HE hd HK
   dsimp only at HK⊢;clear hd;go_wp2_with fail
   exact K_at (Kz HK) (by kernel_rfl)
  ·intro us W K HE hd HK
   have d7:=hd 7 (by kernel_rfl)
   have xk:W.cell? ⟨w.heap.size+1,1,none⟩=some (.int .i64 q'):=(BB.out.ext (sg_undrew HE.out)).cell 1
   dsimp only at HK⊢;rw[d7] at HK⊢;clear hd d7;go_wp2_with fail
   exact K_at (Kz HK) (by kernel_rfl)
  ·intro us W K HE hd HK
   have d6:=hd 6 (by kernel_rfl)
   have d8:=hd 8 (by kernel_rfl)
   dsimp only at HK⊢;rw[d6,d8] at HK⊢;clear hd d6 d8;go_wp2_with ((go_at_call 90;(with_reducible refine (H2.out W).mono ?_);rintro e w6 ⟨rfl,rfl⟩))
   exact K_at (Kz HK) (by kernel_rfl)
  ·intro us W K HE hd HK
   dsimp only at HK⊢;clear hd;go_wp2_with fail
   exact K_at (Kz HK) (by kernel_rfl)
  ·intro us W K HE hd HK
   have d10:=hd 10 (by kernel_rfl)
   have xk:W.cell? ⟨w.heap.size,2,none⟩=some (.int .i64 z):=(BA.out.ext (sg_undrew HE.out)).cell 2
   dsimp only at HK⊢;rw[d10] at HK⊢;clear hd d10;go_wp2_with fail
   exact K_at (Kz HK) (by kernel_rfl)
  ·intro us W K HE hd HK
   dsimp only at HK⊢;clear hd;go_wp2_with fail
   exact K_at (Kz HK) (by kernel_rfl)
  ·intro us W K HE hd HK
   have d12:=hd 12 (by kernel_rfl)
   have xk:W.cell? ⟨w.heap.size+1,2,none⟩=some (.int .i64 z'):=(BB.out.ext (sg_undrew HE.out)).cell 2
   dsimp only at HK⊢;rw[d12] at HK⊢;clear hd d12;go_wp2_with fail
   exact K_at (Kz HK) (by kernel_rfl)
  ·intro us W K HE hd HK
   have d11:=hd 11 (by kernel_rfl)
   have d13:=hd 13 (by kernel_rfl)
   dsimp only at HK⊢;rw[d11,d13] at HK⊢;clear hd d11 d13;go_wp2_with ((go_at_call 90;(with_reducible refine (H3.out W).mono ?_);rintro e w6 ⟨rfl,rfl⟩))
   exact K_at (Kz HK) (by kernel_rfl)
  ·intro us W K HE hd HK
   have d4:=hd 4 (by kernel_rfl)
   have d9:=hd 9 (by kernel_rfl)
   have d14:=hd 14 (by kernel_rfl)
   dsimp only at HK⊢;rw[d4,d9,d14] at HK⊢;clear hd d4 d9 d14;go_wp2_with fail
   exact K_at (HK.out (.slice (some ⟨W.heap.size,0,none⟩) 3 3) _ (fun W2 hW2=>⟨W.heap.size,rfl,((Blk.fresh W 3 [.int .i64 c1,.int .i64 c2,.int .i64 c3]).rd rfl).ext' hW2⟩) ((Ext.refl W).alloc _)) (by kernel_rfl)
  ·intro us W K HE hd HK
   obtain⟨g,d15,hr⟩:=hd 15 (by kernel_rfl)
   have RR:=hid (or_any [c1,c2,c3] _ 3 3 W hr (by decide))
   rw[←HV.out] at RR;clear hr;dsimp only at HK⊢;rw[d15] at HK⊢;clear hd d15;go_wp2_with ((go_at_call 89;(with_reducible refine RR.out.mono ?_);rintro e w6 ⟨rfl,rfl⟩))
   exact K_at (Kz HK) (by kernel_rfl)
 ·intro us W hE hd
  try dsimp only
  have d16:=hd 16 (by decide)
  simp only[List.drop_succ_cons,List.drop_zero]
  rw[d16];have EW:=hid (E2.out.next (sg_undrew hE));clear hd hE d16;go_wp2_with fail
  go_ret
  exact⟨rfl,EW.out⟩
def aroI (n m:Int):Int:=(if n<0 then -(n+1) else n) % m
theorem aroI_bd (n m:Int)(hm:0<m):0≤aroI n m∧aroI n m<m:=by
 unfold aroI;exact⟨Int.emod_nonneg _ (by omega),Int.emod_lt_of_pos _ hm⟩
theorem around_any (n m:Int)(w:World)(h0:-9223372036854775808≤n)(h1:n≤9223372036854775807)(hm:0<m)(hm2:m≤9223372036854775807):Calls Tryz.prog 12 #[.int .i64 n,.int .i64 m] w fun e w'=>e=.returned (.int .i64 (aroI n m))∧w=w':=by
 have hR:=aroI_bd n m hm;by_cases h:n<0
 ·have HA:Hid (-((n+1).tmod m)=aroI n m):=hid (by unfold aroI;rw[if_pos h,←Int.neg_tmod,Int.tmod_eq_emod_of_nonneg (by omega)])
  have hmz:¬m=0:=by omega
  go_enter Tryz.func12,Tryz.ntmps12
  go_wp2_with fail
  go_ret
  exact⟨by rw[←HA.out];rfl,rfl⟩
 ·have HA:Hid (n % m=aroI n m):=hid (by unfold aroI;rw[if_neg h])
  have hmz:¬m=0:=by omega
  go_enter Tryz.func12,Tryz.ntmps12
  go_wp2_with fail
  go_ret
  exact⟨by rw[←HA.out];rfl,rfl⟩
def atI (l:List Int)(i:Nat)(m:Int):Int:=if i<l.length then aroI (l.getD i 0) m else 0
theorem atI_bd (l:List Int)(i:Nat)(m:Int)(hm:0<m):0≤atI l i m∧atI l i m<m:=by
 unfold atI;split
 ·exact aroI_bd _ _ hm
 ·omega
theorem at_any (l:List Int)(A:Option Addr)(n c:Nat)(i:Nat)(m:Int)(w:World)(hl:Rd w w.heap.size A n (l.map (Value.int .i64)))(hwf:∀x∈l,-9223372036854775808≤x∧x≤9223372036854775807)(hm:0<m)(hm2:m≤9223372036854775807)(hi:i≤1000000) :
  Calls Tryz.prog 29 #[.slice A n c,.int .i64 (i:Int),.int .i64 m] w fun e w'=>e=.returned (.int .i64 (atI l i m))∧w=w':=by
 have hlen:l.length=n:=by simpa using hl.1
 by_cases h:i<n
 ·obtain⟨b,o,hA,hb,hc⟩:=hl.2 (by omega)
  subst hA
  have hg:l[i]?=some (l.getD i 0):=by
   rw[List.getD_eq_getElem?_getD,List.getElem?_eq_getElem (by omega)];rfl
  have c0:w.cell? ⟨b,o+i,none⟩=some (.int .i64 (l.getD i 0)):=hc i _ (by rw[List.getElem?_map,hg];rfl)
  have hw:=hwf (l.getD i 0) (List.mem_of_getElem? hg)
  have HA:Hid (aroI (l.getD i 0) m=atI l i m):=hid (by unfold atI;rw[if_pos (by omega)])
  clear hc hg hl hwf hlen;generalize l.getD i 0=v at *
  have HC:=hid (around_any v m w hw.1 hw.2 hm hm2);go_enter Tryz.func29,Tryz.ntmps29
  go_wp2_with ((go_at_call 12;(with_reducible refine HC.out.mono ?_);rintro e w6 ⟨rfl,rfl⟩))
  go_ret
  exact⟨by rw[←HA.out];rfl,rfl⟩
 ·have HA:Hid (atI l i m=0):=hid (by unfold atI;rw[if_neg (by omega)])
  clear hl hwf hlen;go_enter Tryz.func29,Tryz.ntmps29
  go_wp2_with fail
  go_ret
  exact⟨by rw[HA.out];rfl,rfl⟩
end
end Go.Proofs.YtjeecfjeooehhaaGreatDoor