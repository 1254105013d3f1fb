/- The digits of a digest: the walk of sign.Digits, and the plain list. Conditions: bytes of a digest. -/
import Derived.Test.YtjeecfjeooehhaaGreatDoorM21
import Derived.Deep.DeepCutAuto
import Derived.Deep.CutBlock
import Derived.Test.YtjeecfjeooehhaaGreatDoorM24
import Derived.Laws.Shifts
import Derived.Test.YtjeecfjeooehhaaGreatDoorM23
set_option linter.unusedSimpArgs false
set_option linter.unusedVariables false
set_option maxHeartbeats 16000000
set_option maxRecDepth 100000
namespace Go.Proofs.YtjeecfjeooehhaaGreatDoor
open Go.RowKit
open Lib (hid)
section
def dg (d:List Int)(i:Nat):Int:=(d.getD (i / 4) 0 / 4^(3-i % 4)) % 4
def dsum (d:List Int):Nat→Int
 | 0=>0
 | t+1=>dsum d t+(3-dg d t)
def dcell (d:List Int)(t j:Nat):Int:=if j<t then dg d j else 0
def dlist (d:List Int)(t:Nat):List Int:=(List.range 68).map (dcell d t)
def ccell (d:List Int)(u j:Nat):Int:=if j<64 then dg d j else if 68≤j+u then dsum d 64 / 4^(67-j) % 4 else 0
def clist (d:List Int)(u:Nat):List Int:=(List.range 68).map (ccell d u)
def digL (d:List Int):List Int:=clist d 4
def i64s (l:List Int):List Value:=l.map (Value.int .i64)
theorem dg_bd (d:List Int)(i:Nat):0≤dg d i∧dg d i≤3:=by unfold dg;omega
theorem dsum_bd (d:List Int)(t:Nat):0≤dsum d t∧dsum d t≤3*t:=by
 induction t with
 | zero=>simp [dsum]
 | succ t ih=>have:=dg_bd d t;unfold dsum;omega
theorem i64s_map_get (f:Nat→Int)(n j:Nat)(h:j<n):(i64s ((List.range n).map f))[j]?=some (.int .i64 (f j)):=by
 simp [i64s,List.getElem?_map,List.getElem?_range h]
theorem i64s_map_set (f g:Nat→Int)(n t:Nat)(x:Int)(hx:x=g t)(h:∀j,j<n→j≠t→f j=g j):(i64s ((List.range n).map f)).set t (.int .i64 x)=i64s ((List.range n).map g):=by
 apply List.ext_getElem?
 intro j;rw[List.getElem?_set]
 by_cases hj:j<n
 ·by_cases e:t=j
  ·subst e
   rw[if_pos rfl,if_pos (by simp [i64s];exact hj),i64s_map_get g n t hj,hx]
  ·rw[if_neg e,i64s_map_get f n j hj,i64s_map_get g n j hj,h j hj (Ne.symm e)]
 ·have e1:(i64s ((List.range n).map f))[j]?=none:=List.getElem?_eq_none (by simp [i64s];omega)
  have e2:(i64s ((List.range n).map g))[j]?=none:=List.getElem?_eq_none (by simp [i64s];omega)
  rw[e1,e2];by_cases e:t=j
  ·rw[if_pos e,if_neg (by simp [i64s];omega)]
  ·rw[if_neg e]
theorem dlist_zero (d:List Int):i64s (dlist d 0)=List.replicate 68 (.int .i64 0):=by
 apply List.ext_getElem?
 intro j;by_cases hj:j<68
 ·rw[dlist,i64s_map_get _ _ _ hj,List.getElem?_replicate,if_pos hj];rfl
 ·rw[List.getElem?_eq_none (by simp [i64s,dlist];omega),List.getElem?_eq_none (by simp;omega)]
theorem dlist_succ (d:List Int)(t:Nat)(h:t<64):(i64s (dlist d t)).set t (.int .i64 (dg d t))=i64s (dlist d (t+1)) :=
 i64s_map_set _ _ _ _ _ (by simp [dcell]) (fun j _ hj=>by
  unfold dcell;by_cases h1:j<t
  ·rw[if_pos h1,if_pos (by omega)]
  ·rw[if_neg h1,if_neg (by omega)])
theorem clist_zero (d:List Int):dlist d 64=clist d 0:=by
 unfold dlist clist;apply List.map_congr_left
 intro j hj;have hj:=List.mem_range.1 hj;unfold dcell ccell;by_cases h:j<64
 ·rw[if_pos h,if_pos h]
 ·rw[if_neg h,if_neg h,if_neg (by omega)]
theorem clist_succ (d:List Int)(u:Nat)(h:u<4):(i64s (clist d u)).set (67-u) (.int .i64 (dsum d 64 / 4^u % 4))=i64s (clist d (u+1)) :=
 i64s_map_set _ _ _ _ _ (by unfold ccell;rw[if_neg (by omega),if_pos (by omega),show 67-(67-u)=u by omega]) (fun j hj hne=>by
  unfold ccell;by_cases h1:j<64
  ·rw[if_pos h1,if_pos h1]
  ·rw[if_neg h1,if_neg h1]
   by_cases h2:68≤j+u
   ·rw[if_pos h2,if_pos (by omega)]
   ·rw[if_neg h2,if_neg (by omega)])
theorem digits_any (d:List Int)(w:World)(hd:d.length=16)(hb:Byt d) :
  Calls Tryz.prog 56 #[.agg (u8s d).toArray] w fun e w'=>∃g,e=.returned (.slice (some ⟨g,0,none⟩) 68 68)∧w.heap.size≤g∧Blk w' g 161 (i64s (digL d))∧Below w.heap.size w w':=by
 have hz:∀W,(zeroValue 161).run Tryz.prog W=.ok (.agg (i64s (dlist d 0)).toArray) W:=fun W=>by
  rw[dlist_zero]
  kernel_rfl
 obtain⟨Z,hZ⟩:∃Z,Z=i64s (dlist d 0):=⟨_,rfl⟩
 rw[←hZ] at hz;go_enter Tryz.func56,Tryz.ntmps56
 go_wp2_with fail
 go_loopw [4,7] (fun s i wr=>∃t:Nat,t≤64∧s=.int .i64 (dsum d t)∧i=.int .i64 t∧Blk wr w.heap.size 26 (u8s d)∧Blk wr (w.heap.size+1) 161 (i64s (dlist d t))∧Below w.heap.size w wr) (fun _ i _=>64-(intOf i).toNat)
 case atStart =>
  refine⟨0,by omega,rfl,rfl,?_,?_,((Below.refl _ _).alloc (Nat.le_refl _) _).alloc (by simp) _⟩
  ·exact (Blk.fresh' _ _ _ _ _ rfl rfl).alloc _
  ·exact Blk.fresh' _ _ _ _ _ rfl (by simp)
 case round =>
  obtain⟨t,ht,rfl,rfl,hD,hL,hB⟩:=hrel;have HD:=hid hD;have HL:=hid hL;have HB:=hid hB;clear hD hL hB;obtain⟨wo,rfl⟩:∃wo:World,wo=wr:=⟨_,rfl⟩
  obtain⟨s0,hs0⟩:∃x,x=dsum d t:=⟨_,rfl⟩
  have hsb:=dsum_bd d t;rw[←hs0] at hsb⊢;obtain⟨sb0,sb1⟩:=hsb;by_cases hlt:t<64
  ·obtain⟨q,r,hqr,hr⟩:∃q r:Nat,t=4*q+r∧r<4:=⟨t / 4,t % 4,by omega,by omega⟩
   obtain⟨x,hx⟩:∃x,x=d.getD q 0:=⟨_,rfl⟩
   have hxb:0≤x∧x≤255:=by rw[hx];exact hb.at_ q
   have cx:wo.cell? ⟨w.heap.size,q,none⟩=some (.int .u8 x):=by
    rw[HD.out.cell q,hx];simp [u8s,List.getElem?_map,List.getD_eq_getElem?_getD,List.getElem?_eq_getElem (show q<d.length by omega)]
   have cz:wo.cell? ⟨w.heap.size+1,t,none⟩=some (.int .i64 0):=by
    rw[HL.out.cell t,dlist,i64s_map_get _ _ _ (by omega)]
    simp [dcell]
   have fz:=HL.out.frozen t;have hq1:(t:Int).tdiv 4=q:=by rw[Int.tdiv_eq_ediv_of_nonneg (by omega)];omega
   have hqb:q<16:=by omega
   have HQR:=hid hqr;have HX:=hid hx;have HS0:=hid hs0;obtain⟨x0,x1⟩:=hxb;rcases (show r=0∨r=1∨r=2∨r=3 by omega) with rfl|rfl|rfl|rfl
   ·have hq2:(t:Int).tmod 4=0:=by rw[Int.tmod_eq_emod_of_nonneg (by omega)];omega
    have hdg:dg d t=x / 64 % 4:=by
     unfold dg;rw[show t / 4=q by omega,show t % 4=0 by omega,←hx]
     simp
    clear hqr hx hs0;go_upto_region 7 with fail
    obtain⟨v,hv⟩:∃v,v=x / 64 % 4:=⟨_,rfl⟩
    rw[←hv] at hdg⊢;have hvb:0≤v∧v≤3:=by omega
    obtain⟨v0,v1⟩:=hvb;have HDG:=hid hdg
    have HL2:Hid (Blk (wo.setCell ⟨w.heap.size+1,t,none⟩ (.int .i64 v)) (w.heap.size+1) 161 (i64s (dlist d (t+1)))):=hid (by
     have h:=HL.out.set t (.int .i64 v);rw[←HDG.out,dlist_succ d t hlt,HDG.out] at h;exact h)
    have HD2:Hid (Blk (wo.setCell ⟨w.heap.size+1,t,none⟩ (.int .i64 v)) w.heap.size 26 (u8s d)):=hid (HD.out.far (by simp) _)
    have HB2:Hid (Below w.heap.size w (wo.setCell ⟨w.heap.size+1,t,none⟩ (.int .i64 v))):=hid (HB.out.setCell (by simp) _)
    have c1:(wo.setCell ⟨w.heap.size+1,t,none⟩ (.int .i64 v)).cell? ⟨w.heap.size+1,t,none⟩=some (.int .i64 v):=by
     rw[HL2.out.cell t,dlist,i64s_map_get _ _ _ (by omega)]
     unfold dcell;rw[if_pos (by omega),HDG.out]
    have hsum:dsum d (t+1)=s0+(3-v):=by rw[HS0.out,←HDG.out];rfl
    have HSUM:=hid hsum;clear hv hdg cx cz fz HL HD HB hsum hq1 hq2;generalize wo.setCell ⟨w.heap.size+1,t,none⟩ (.int .i64 v)=w2 at *
    go_wp2_with fail
    go_roundw
    case rel=>exact⟨t+1,by omega,by rw[HSUM.out],by go_num,HD2.out,HL2.out,HB2.out⟩
    case measure=>simp [intOf];omega
   ·have hq2:(t:Int).tmod 4=1:=by rw[Int.tmod_eq_emod_of_nonneg (by omega)];omega
    have hdg:dg d t=x / 16 % 4:=by
     unfold dg;rw[show t / 4=q by omega,show t % 4=1 by omega,←hx]
     simp
    clear hqr hx hs0;go_upto_region 7 with fail
    obtain⟨v,hv⟩:∃v,v=x / 16 % 4:=⟨_,rfl⟩
    rw[←hv] at hdg⊢;have hvb:0≤v∧v≤3:=by omega
    obtain⟨v0,v1⟩:=hvb;have HDG:=hid hdg
    have HL2:Hid (Blk (wo.setCell ⟨w.heap.size+1,t,none⟩ (.int .i64 v)) (w.heap.size+1) 161 (i64s (dlist d (t+1)))):=hid (by
     have h:=HL.out.set t (.int .i64 v);rw[←HDG.out,dlist_succ d t hlt,HDG.out] at h;exact h)
    have HD2:Hid (Blk (wo.setCell ⟨w.heap.size+1,t,none⟩ (.int .i64 v)) w.heap.size 26 (u8s d)):=hid (HD.out.far (by simp) _)
    have HB2:Hid (Below w.heap.size w (wo.setCell ⟨w.heap.size+1,t,none⟩ (.int .i64 v))):=hid (HB.out.setCell (by simp) _)
    have c1:(wo.setCell ⟨w.heap.size+1,t,none⟩ (.int .i64 v)).cell? ⟨w.heap.size+1,t,none⟩=some (.int .i64 v):=by
     rw[HL2.out.cell t,dlist,i64s_map_get _ _ _ (by omega)]
     unfold dcell;rw[if_pos (by omega),HDG.out]
    have hsum:dsum d (t+1)=s0+(3-v):=by rw[HS0.out,←HDG.out];rfl
    have HSUM:=hid hsum;clear hv hdg cx cz fz HL HD HB hsum hq1 hq2;generalize wo.setCell ⟨w.heap.size+1,t,none⟩ (.int .i64 v)=w2 at *
    go_wp2_with fail
    go_roundw
    case rel=>exact⟨t+1,by omega,by rw[HSUM.out],by go_num,HD2.out,HL2.out,HB2.out⟩
    case measure=>simp [intOf];omega
   ·have hq2:(t:Int).tmod 4=2:=by rw[Int.tmod_eq_emod_of_nonneg (by omega)];omega
    have hdg:dg d t=x / 4 % 4:=by
     unfold dg;rw[show t / 4=q by omega,show t % 4=2 by omega,←hx]
     simp
    clear hqr hx hs0;go_upto_region 7 with fail
    obtain⟨v,hv⟩:∃v,v=x / 4 % 4:=⟨_,rfl⟩
    rw[←hv] at hdg⊢;have hvb:0≤v∧v≤3:=by omega
    obtain⟨v0,v1⟩:=hvb;have HDG:=hid hdg
    have HL2:Hid (Blk (wo.setCell ⟨w.heap.size+1,t,none⟩ (.int .i64 v)) (w.heap.size+1) 161 (i64s (dlist d (t+1)))):=hid (by
     have h:=HL.out.set t (.int .i64 v);rw[←HDG.out,dlist_succ d t hlt,HDG.out] at h;exact h)
    have HD2:Hid (Blk (wo.setCell ⟨w.heap.size+1,t,none⟩ (.int .i64 v)) w.heap.size 26 (u8s d)):=hid (HD.out.far (by simp) _)
    have HB2:Hid (Below w.heap.size w (wo.setCell ⟨w.heap.size+1,t,none⟩ (.int .i64 v))):=hid (HB.out.setCell (by simp) _)
    have c1:(wo.setCell ⟨w.heap.size+1,t,none⟩ (.int .i64 v)).cell? ⟨w.heap.size+1,t,none⟩=some (.int .i64 v):=by
     rw[HL2.out.cell t,dlist,i64s_map_get _ _ _ (by omega)]
     unfold dcell;rw[if_pos (by omega),HDG.out]
    have hsum:dsum d (t+1)=s0+(3-v):=by rw[HS0.out,←HDG.out];rfl
    have HSUM:=hid hsum;clear hv hdg cx cz fz HL HD HB hsum hq1 hq2;generalize wo.setCell ⟨w.heap.size+1,t,none⟩ (.int .i64 v)=w2 at *
    go_wp2_with fail
    go_roundw
    case rel=>exact⟨t+1,by omega,by rw[HSUM.out],by go_num,HD2.out,HL2.out,HB2.out⟩
    case measure=>simp [intOf];omega
   ·have hq2:(t:Int).tmod 4=3:=by rw[Int.tmod_eq_emod_of_nonneg (by omega)];omega
    have hdg:dg d t=x % 4:=by
     unfold dg;rw[show t / 4=q by omega,show t % 4=3 by omega,←hx]
     simp
    clear hqr hx hs0;go_upto_region 7 with fail
    obtain⟨v,hv⟩:∃v,v=x % 4:=⟨_,rfl⟩
    rw[←hv] at hdg⊢;have hvb:0≤v∧v≤3:=by omega
    obtain⟨v0,v1⟩:=hvb;have HDG:=hid hdg
    have HL2:Hid (Blk (wo.setCell ⟨w.heap.size+1,t,none⟩ (.int .i64 v)) (w.heap.size+1) 161 (i64s (dlist d (t+1)))):=hid (by
     have h:=HL.out.set t (.int .i64 v);rw[←HDG.out,dlist_succ d t hlt,HDG.out] at h;exact h)
    have HD2:Hid (Blk (wo.setCell ⟨w.heap.size+1,t,none⟩ (.int .i64 v)) w.heap.size 26 (u8s d)):=hid (HD.out.far (by simp) _)
    have HB2:Hid (Below w.heap.size w (wo.setCell ⟨w.heap.size+1,t,none⟩ (.int .i64 v))):=hid (HB.out.setCell (by simp) _)
    have c1:(wo.setCell ⟨w.heap.size+1,t,none⟩ (.int .i64 v)).cell? ⟨w.heap.size+1,t,none⟩=some (.int .i64 v):=by
     rw[HL2.out.cell t,dlist,i64s_map_get _ _ _ (by omega)]
     unfold dcell;rw[if_pos (by omega),HDG.out]
    have hsum:dsum d (t+1)=s0+(3-v):=by rw[HS0.out,←HDG.out];rfl
    have HSUM:=hid hsum;clear hv hdg cx cz fz HL HD HB hsum hq1 hq2;generalize wo.setCell ⟨w.heap.size+1,t,none⟩ (.int .i64 v)=w2 at *
    go_wp2_with fail
    go_roundw
    case rel=>exact⟨t+1,by omega,by rw[HSUM.out],by go_num,HD2.out,HL2.out,HB2.out⟩
    case measure=>simp [intOf];omega
  ·obtain rfl:t=64:=by omega
   have HL0:Hid (Blk wo (w.heap.size+1) 161 (i64s (clist d 0))):=hid (by rw[←clist_zero];exact HL.out)
   have HS0:=hid hs0;have hsb2:s0≤192:=by omega
   clear HL HD hs0 sb1;go_wp2_with fail
   go_loopw [4,6] (fun s i wr=>∃u:Nat,u≤4∧s=.int .i64 (s0 / 4^u)∧i=.int .i64 (67-(u:Int))∧Blk wr (w.heap.size+1) 161 (i64s (clist d u))∧Below w.heap.size w wr) (fun _ i _=>(intOf i).toNat)
   case atStart=>exact⟨0,by omega,by simp,by simp,HL0.out,HB.out⟩
   case round =>
    clear HL0 HB;obtain⟨u,hu,rfl,rfl,hL,hB⟩:=hrel;have HL:=hid hL;have HB:=hid hB;clear hL hB;obtain⟨wi,rfl⟩:∃wi:World,wi=wr:=⟨_,rfl⟩
    obtain⟨s1,hs1⟩:∃x,x=s0 / 4^u:=⟨_,rfl⟩
    have hs2:0≤s1∧s1≤s0:=by rw[hs1];exact⟨Int.ediv_nonneg sb0 (by exact_mod_cast Nat.zero_le _),Int.ediv_le_self _ sb0⟩
    have hs3:s0 / 4^(u+1)=s1 / 4:=by rw[hs1,Int.ediv_ediv_of_nonneg (by exact_mod_cast Nat.zero_le _)];rfl
    rw[←hs1];have HS1:=hid hs1;have HS3:=hid hs3;obtain⟨a0,a1⟩:=hs2;clear hs1 hs3;rcases (show u=0∨u=1∨u=2∨u=3∨u=4 by omega) with rfl|rfl|rfl|rfl|rfl
    ·have cz:∃y,wi.cell? ⟨w.heap.size+1,67,none⟩=some (.int .i64 y):=⟨_,by rw[HL.out.cell 67,clist,i64s_map_get _ _ _ (by omega)]⟩
     obtain⟨y,cz⟩:=cz;have fz:=HL.out.frozen 67
     have hset:(i64s (clist d 0)).set 67 (.int .i64 (s1 % 4))=i64s (clist d (0+1)):=by
      rw[show s1 % 4=dsum d 64 / 4^0 % 4 by rw[HS1.out,HS0.out]]
      exact clist_succ d 0 (by decide)
     have HL2:Hid (Blk (wi.setCell ⟨w.heap.size+1,67,none⟩ (.int .i64 (s1 % 4))) (w.heap.size+1) 161 (i64s (clist d (0+1)))):=hid (by rw[←hset];exact HL.out.set 67 (.int .i64 (s1 % 4)))
     have HB2:Hid (Below w.heap.size w (wi.setCell ⟨w.heap.size+1,67,none⟩ (.int .i64 (s1 % 4)))):=hid (HB.out.setCell (by simp) _)
     clear hset;go_wp2_with fail
     go_roundw
     case rel=>exact⟨0+1,by omega,by rw[HS3.out],by go_num,HL2.out,HB2.out⟩
     case measure=>simp [intOf]
    ·have cz:∃y,wi.cell? ⟨w.heap.size+1,66,none⟩=some (.int .i64 y):=⟨_,by rw[HL.out.cell 66,clist,i64s_map_get _ _ _ (by omega)]⟩
     obtain⟨y,cz⟩:=cz;have fz:=HL.out.frozen 66
     have hset:(i64s (clist d 1)).set 66 (.int .i64 (s1 % 4))=i64s (clist d (1+1)):=by
      rw[show s1 % 4=dsum d 64 / 4^1 % 4 by rw[HS1.out,HS0.out]]
      exact clist_succ d 1 (by decide)
     have HL2:Hid (Blk (wi.setCell ⟨w.heap.size+1,66,none⟩ (.int .i64 (s1 % 4))) (w.heap.size+1) 161 (i64s (clist d (1+1)))):=hid (by rw[←hset];exact HL.out.set 66 (.int .i64 (s1 % 4)))
     have HB2:Hid (Below w.heap.size w (wi.setCell ⟨w.heap.size+1,66,none⟩ (.int .i64 (s1 % 4)))):=hid (HB.out.setCell (by simp) _)
     clear hset;go_wp2_with fail
     go_roundw
     case rel=>exact⟨1+1,by omega,by rw[HS3.out],by go_num,HL2.out,HB2.out⟩
     case measure=>simp [intOf]
    ·have cz:∃y,wi.cell? ⟨w.heap.size+1,65,none⟩=some (.int .i64 y):=⟨_,by rw[HL.out.cell 65,clist,i64s_map_get _ _ _ (by omega)]⟩
     obtain⟨y,cz⟩:=cz;have fz:=HL.out.frozen 65
     have hset:(i64s (clist d 2)).set 65 (.int .i64 (s1 % 4))=i64s (clist d (2+1)):=by
      rw[show s1 % 4=dsum d 64 / 4^2 % 4 by rw[HS1.out,HS0.out]]
      exact clist_succ d 2 (by decide)
     have HL2:Hid (Blk (wi.setCell ⟨w.heap.size+1,65,none⟩ (.int .i64 (s1 % 4))) (w.heap.size+1) 161 (i64s (clist d (2+1)))):=hid (by rw[←hset];exact HL.out.set 65 (.int .i64 (s1 % 4)))
     have HB2:Hid (Below w.heap.size w (wi.setCell ⟨w.heap.size+1,65,none⟩ (.int .i64 (s1 % 4)))):=hid (HB.out.setCell (by simp) _)
     clear hset;go_wp2_with fail
     go_roundw
     case rel=>exact⟨2+1,by omega,by rw[HS3.out],by go_num,HL2.out,HB2.out⟩
     case measure=>simp [intOf]
    ·have cz:∃y,wi.cell? ⟨w.heap.size+1,64,none⟩=some (.int .i64 y):=⟨_,by rw[HL.out.cell 64,clist,i64s_map_get _ _ _ (by omega)]⟩
     obtain⟨y,cz⟩:=cz;have fz:=HL.out.frozen 64
     have hset:(i64s (clist d 3)).set 64 (.int .i64 (s1 % 4))=i64s (clist d (3+1)):=by
      rw[show s1 % 4=dsum d 64 / 4^3 % 4 by rw[HS1.out,HS0.out]]
      exact clist_succ d 3 (by decide)
     have HL2:Hid (Blk (wi.setCell ⟨w.heap.size+1,64,none⟩ (.int .i64 (s1 % 4))) (w.heap.size+1) 161 (i64s (clist d (3+1)))):=hid (by rw[←hset];exact HL.out.set 64 (.int .i64 (s1 % 4)))
     have HB2:Hid (Below w.heap.size w (wi.setCell ⟨w.heap.size+1,64,none⟩ (.int .i64 (s1 % 4)))):=hid (HB.out.setCell (by simp) _)
     clear hset;go_wp2_with fail
     go_roundw
     case rel=>exact⟨3+1,by omega,by rw[HS3.out],by go_num,HL2.out,HB2.out⟩
     case measure=>simp [intOf]
    ·go_wp2_with fail
     go_ret
     exact⟨_,rfl,Nat.le_succ _,HL.out,HB.out⟩
end
section
theorem digL_len (d:List Int):(digL d).length=68:=by simp [digL,clist]
theorem digL_at (d:List Int){j:Nat}(h:j<68):(digL d).getD j 0=ccell d 4 j:=by
 unfold digL clist;rw[List.getD_eq_getElem?_getD,List.getElem?_map,List.getElem?_range h];rfl
theorem ccell_lo (d:List Int){j:Nat}(h:j<64):ccell d 4 j=dg d j:=by unfold ccell;rw[if_pos h]
theorem ccell_hi (d:List Int){j:Nat}(h:j<4):ccell d 4 (67-j)=dsum d 64 / 4^j % 4:=by
 unfold ccell;rw[if_neg (by omega),if_pos (by omega),show 67-(67-j)=j by omega]
theorem digL_bd (d:List Int){j:Nat}(h:j<68):0≤(digL d).getD j 0∧(digL d).getD j 0≤3:=by
 rw[digL_at d h];by_cases h1:j<64
 ·rw[ccell_lo d h1];exact dg_bd d j
 ·have:=ccell_hi d (j:=67-j) (by omega)
  rw[show 67-(67-j)=j by omega] at this
  rw[this];omega
end
section
attribute [local go_sem ↓] wp_at_zero wp_at_succ
def cutW (w:World)(n:Nat):World:={ w with heap:=w.heap.extract 0 n }
theorem cutW_size (w:World)(n:Nat)(h:n≤w.heap.size):(cutW w n).heap.size=n:=by
 simp [cutW];omega
theorem cutW_ext (w:World)(n:Nat)(h:n≤w.heap.size):Ext (cutW w n) w:=by
 refine⟨rfl,rfl,rfl,by rw[cutW_size w n h];exact h,fun k hk=>?_⟩
 rw[cutW_size w n h] at hk;unfold cutW;show w.heap[k]?=(w.heap.extract 0 n)[k]?
 simp [Array.getElem?_extract,hk]
 omega
theorem NEnv.cut {w:World}{seed:ByteArray}{mb sb ab hm n:Nat}(h:NEnv w seed mb sb ab hm)(hn:n≤w.heap.size)(h1:mb<n)(h2:sb<n)(h3:ab<n)(h4:hm<n)(h5:3<n):NEnv (cutW w n) seed mb sb ab hm:=by
 have hE:=cutW_ext w n hn;have hs:=cutW_size w n hn;obtain⟨c1,c2,c3,l1,l2,l3,hm1,ht,hz⟩:=h;refine⟨(hE.cell (p:=⟨mb,0,none⟩) (by rw[hs];exact h1)).symm.trans c1,(hE.cell (p:=⟨sb,0,none⟩) (by rw[hs];exact h2)).symm.trans c2,(hE.cell (p:=⟨ab,0,none⟩) (by rw[hs];exact h3)).symm.trans c3,by omega,by omega,by omega,?_,?_,hz⟩
 ·obtain⟨L,⟨es,clock,hb,r⟩,h2⟩:=hm1
  exact⟨L,⟨es,clock,(hE.block hm (by omega)).symm.trans hb,r⟩,h2⟩
 ·obtain⟨t,fr,h⟩:=ht
  exact⟨t,fr,(hE.block _ (by omega)).symm.trans h⟩
structure SS (w:World) (seed:ByteArray) (mb sb ab hm base:Nat) (W:World) (L:List Int):Prop where
 ext:Ext w W
 env:NEnv W seed mb sb ab hm
 bld:Bld base W base L
 hle:w.heap.size≤hm
 l1:mb<base
 l2:sb<base
 l3:ab<base
 l4:hm<base
 l5:3<base
 l6:w.heap.size≤base
 l7:base<W.heap.size
theorem SS.next {w:World}{seed:ByteArray}{mb sb ab hm base:Nat}{W W':World}{L:List Int}(h:SS w seed mb sb ab hm base W L)(hE:Ext W W'):SS w seed mb sb ab hm base W' L :=
 ⟨h.ext.next hE,h.env.ext hE,h.bld.ext hE,h.hle,h.l1,h.l2,h.l3,h.l4,h.l5,h.l6,Nat.lt_of_lt_of_le h.l7 hE.size⟩
theorem sg_own_ge {w:World}{base:Nat}{e:TypeId}{size:Nat}{v:Value}{n:Nat}{xs:List Value}(ho:w.ownsRow base e size v n xs){b:Nat}(hb:v.ownBlock=some b):base≤b:=by
 rcases ho.2 with ⟨h1,_⟩|⟨g,cap,cur,h1,h2,_⟩
 ·rw[h1] at hb;cases hb
 ·rw[h1] at hb
  have e1:g=b:=by simpa [Value.ownBlock] using hb
  omega
theorem Bld.kept {F:Nat→Prop}{base:Nat}{w w':World}{b:Nat}{L:List Int}(h:Bld base w b L)(hk:Kept F w w')(hF:∀x,F x→x<base)(hb:base≤b):Bld base w' b L:=by
 obtain⟨h0,p,A,c,hp,hbk,ho,hn⟩:=h;refine⟨h0,p,A,c,hp,hk.blk hbk (fun hf=>by have:=hF _ hf;omega),hk.own ho (fun x hx hf=>?_),hn⟩
 have h1:=sg_own_ge ho hx;have h2:=hF x hf;omega
theorem SS.nr {w:World}{seed:ByteArray}{mb sb ab hm base:Nat}{W W':World}{L:List Int}(h:SS w seed mb sb ab hm base W L)(hr:NR seed hm W W'):SS w seed mb sb ab hm base W' L :=
 ⟨nr_ext h.ext hr h.hle,h.env.next hr,h.bld.kept hr.1 (fun x hx=>by rw[hx];exact h.l4) (Nat.le_refl _),h.hle,h.l1,h.l2,h.l3,h.l4,h.l5,h.l6,Nat.lt_of_lt_of_le h.l7 hr.1.size⟩
theorem SS.back {w:World}{seed:ByteArray}{mb sb ab hm base:Nat}{W w':World}{L:List Int}(h:SS w seed mb sb ab hm base W L)(hE:Ext (cutW W base) w'):Ext w w':=by
 have hl:base≤W.heap.size:=Nat.le_of_lt h.l7;have hsz:=hE.size;rw[cutW_size W base hl] at hsz;refine⟨hE.os.trans h.ext.os,hE.tape.trans h.ext.tape,hE.output.trans h.ext.output,Nat.le_trans h.l6 hsz,fun b hb=>?_⟩
 have h6:=h.l6;rw[hE.block b (by rw[cutW_size W base hl];omega)]
 have h2:=(cutW_ext W base hl).block b (by rw[cutW_size W base hl];omega)
 rw[←h2];exact h.ext.block b hb
theorem SS.string {w:World}{seed:ByteArray}{mb sb ab hm base:Nat}{W:World}{L:List Int}(h:SS w seed mb sb ab hm base W L)(hB:Byt L)(h0:0<L.length)(hlen:L.length≤1000000000) :
  Calls Tryz.prog 94 #[.pointer (some ⟨base,0,none⟩)] W fun e w'=>e=.returned (.string (strOf L))∧Ext w w':=by
 have hl:base≤W.heap.size:=Nat.le_of_lt h.l7;refine (string_any base base L W (cutW W base) h.bld hB h0 hlen (cutW_size W base hl).symm (cutW_ext W base hl)).mono ?_
 rintro e w' ⟨rfl,hE,-⟩
 exact⟨rfl,h.back hE⟩
theorem SS.write {w:World}{seed:ByteArray}{mb sb ab hm base:Nat}{W:World}{L:List Int}(h:SS w seed mb sb ab hm base W L)(X:List Int)(B:Option Addr)(k d:Nat)(hx:Rd W W.heap.size B k (u8s X))(hlen:L.length+k≤1000000000) :
  Calls Tryz.prog 92 #[.pointer (some ⟨base,0,none⟩),.slice B k d] W fun e w'=>e=.returned (.tuple #[.int .i64 k,.nilIface])∧SS w seed mb sb ab hm base w' (L++X)∧∀g t cs,g≠base→t≠5→Blk W g t cs→Blk w' g t cs:=by
 have hl:base≤W.heap.size:=Nat.le_of_lt h.l7;refine (write_any base base L X B k d W (cutW W base) h.bld hx hlen (cutW_size W base hl).symm (cutW_ext W base hl)).mono ?_
 rintro e w' ⟨rfl,hB,hE,hK⟩
 have hn:=(h.env.cut hl h.l1 h.l2 h.l3 h.l4 h.l5).ext hE;have hsz:=hE.size;rw[cutW_size W base hl] at hsz
 have hE2:Ext w w':=by
  refine⟨hE.os.trans h.ext.os,hE.tape.trans h.ext.tape,hE.output.trans h.ext.output,Nat.le_trans h.l6 hsz,fun b hb=>?_⟩
  have h6:=h.l6;rw[hE.block b (by rw[cutW_size W base hl];omega)]
  have h2:=(cutW_ext W base hl).block b (by rw[cutW_size W base hl];omega)
  rw[←h2];exact h.ext.block b hb
 have hb2:=hB;obtain⟨h0,p,A,c,hp,hbk,ho,hn2⟩:=hb2;exact⟨rfl,⟨hE2,hn,hB,h.hle,h.l1,h.l2,h.l3,h.l4,h.l5,h.l6,hbk.lt⟩,hK⟩
end
section
attribute [local go_sem ↓] wp_at_zero wp_at_succ
def dgN (d:List Int)(c:Nat):Nat:=((digL d).getD c 0).toNat
theorem dgN_le (d:List Int)(c:Nat):dgN d c≤3:=by
 unfold dgN;by_cases h:c<68
 ·have:=digL_bd d h
  omega
 ·rw[List.getD_eq_getElem?_getD,List.getElem?_eq_none (by rw[digL_len];omega)]
  simp
theorem dgN_cell (d:List Int){c:Nat}(h:c<68):(i64s (digL d))[c]?=some (.int .i64 (dgN d c:Int)):=by
 have hb:=digL_bd d h;unfold dgN i64s;rw[List.getElem?_map,List.getElem?_eq_getElem (by rw[digL_len];exact h)]
 rw[List.getD_eq_getElem?_getD,List.getElem?_eq_getElem (by rw[digL_len];exact h)] at hb⊢
 simp only[Option.getD_some,Option.map_some] at hb⊢
 rw[Int.toNat_of_nonneg hb.1]
def sib (i l:Nat):Nat:=(i / 2^l) ^^^ 1
theorem sib_le (i l h:Nat)(hi:i<2^h)(hl:l<h)(h6:h≤6):(sib i l+1)*2^l≤64:=by
 obtain⟨m,hm⟩:∃m,h=l+m:=⟨h-l,by omega⟩
 have h1:i / 2^l<2^m:=by
  rw[hm,Nat.pow_add] at hi;exact Nat.div_lt_of_lt_mul hi
 have h2:sib i l<2^m:=Nat.xor_lt_two_pow h1 (Nat.one_lt_two_pow (by omega))
 have h3:(sib i l+1)*2^l≤2^m*2^l:=Nat.mul_le_mul_right _ h2;have h5:2^m*2^l=2^h:=by rw[←Nat.pow_add,hm,Nat.add_comm]
 rw[h5] at h3;have h4:=Nat.pow_le_pow_right (show 0<2 by decide) h6
 omega
def sgV (seed:ByteArray)(i:Nat)(d:List Int)(c:Nat):List Int:=advD (i:Int) (c:Int) 0 (dgN d c) (startD seed (i:Int) (c:Int))
theorem sgV_dig (seed:ByteArray)(i:Nat)(d:List Int)(c:Nat):Dig (sgV seed i d c):=advD_dig (startD_dig _ _ _) _
def sgP (seed:ByteArray)(i l:Nat):List Int:=nodeV seed l (sib i l)
def sgM (seed:ByteArray)(h i:Nat)(msg:ByteArray):List Int:=digestD (nodeV seed h 0) (i:Int) msg
def signL (seed:ByteArray)(h i:Nat)(msg:ByteArray):List Int:=encInt (i:Int)++flatD (sgV seed i (sgM seed h i msg)) 68++flatD (sgP seed i) h
theorem sg_byt_app {a b:List Int}(ha:Byt a)(hb:Byt b):Byt (a++b):=fun x hx=>by
 rcases List.mem_append.1 hx with h|h
 ·exact ha x h
 ·exact hb x h
theorem bits_xor1 (s:Nat)(h:s<64):bits .xor .i64 (s:Int) 1=((s ^^^ 1:Nat):Int):=by
 have hx:∀s:Fin 64,bits .xor .i64 ((s.val:Nat):Int) 1=((s.val ^^^ 1:Nat):Int):=by decide
 exact hx ⟨s,h⟩
theorem sign_any (seed msg:ByteArray)(h i p:Nat)(w:World)(hs:seed.size=32)(h6:h≤6)(hp:p=2^h)(hip:i<p)(hm:msg.size≤1000000)(hK:KTab w) :
  Calls Tryz.prog 39 #[.string seed,.int .i64 (h:Int),.int .i64 (i:Int),.string msg] w fun e w'=>e=.returned (.tuple #[.string (strOf (signL seed h i msg)),.int .i64 0])∧Ext w w':=by
 have HK:=hid hK;have zz:∀W,(zeroValue 26).run Tryz.prog W=.ok (.agg (u8s (List.replicate 16 0)).toArray) W:=fun W=>by kernel_rfl
 obtain⟨Z,hZ⟩:∃Z,Z=u8s (List.replicate 16 0):=⟨_,rfl⟩
 have HZL:Hid (Z.length=16):=hid (by rw[hZ];rfl)
 rw[←hZ] at zz
 have hp64:p≤64:=by
  have:=Nat.pow_le_pow_right (show 0<2 by decide) h6
  omega
 have hp2:(2:Int)^h=(p:Int):=by rw[hp];exact_mod_cast rfl
 have HS:Hid (seed.size≤1000000):=hid (by omega)
 have HI:Hid (I64 (i:Int)):=hid ⟨by omega,by omega⟩
 have HM:Hid (msg.size≤1000000000):=hid (by omega)
 have hle:=encInt_le9 (i:Int) HI.out.1 HI.out.2;obtain⟨E,hE⟩:∃E,E=encInt (i:Int):=⟨_,rfl⟩
 obtain⟨n,hn⟩:∃n,n=E.length:=⟨_,rfl⟩
 have HE:=hid hE;have HN:=hid hn;have hn9:n≤9:=by rw[hn,hE];exact hle
 have hn0:0<n:=by rw[hn,hE,encInt_length];omega
 have HINT:Hid (∀W,Calls Tryz.prog 66 #[.int .i64 (i:Int)] W fun e w'=>(∃A c,e=.returned (.slice A n c)∧Rd w' w'.heap.size A n (u8s E))∧Ext W w'):=hid (fun W=>(wintL_any (i:Int) W HI.out.1 HI.out.2).mono fun e w' h=>by
  obtain⟨⟨A,c,h,ho⟩,hB⟩:=h;subst hE;subst hn;exact⟨⟨A,c,h,Rd.of_own ho⟩,hB⟩)
 have hpw:Hid ((0+1)*2^h≤64):=hid (by omega)
 obtain⟨PV,hPV⟩:∃V,V=nodeV seed h 0:=⟨_,rfl⟩
 have HPD:Hid (Dig PV):=hid (by rw[hPV];exact nodeV_dig _ _ _)
 have HAT:Hid (∀(mb sb ab hm:Nat) (W:World),NEnv W seed mb sb ab hm→Calls Tryz.prog 128 #[.int .i64 (h:Int),.int .i64 0,.pointer (some ⟨mb,0,none⟩),.pointer (some ⟨sb,0,none⟩),.pointer (some ⟨ab,0,none⟩)] W fun e w'=>e=.returned (.agg (u8s PV).toArray)∧NR seed hm W w'):=hid (fun mb sb ab hm W hW=>by
  rw[hPV];exact nd_at_any seed mb sb ab hm h 0 W hW h6 hpw.out)
 obtain⟨D,hD⟩:∃D,D=sgM seed h i msg:=⟨_,rfl⟩
 have HDD:Hid (Dig D):=hid (by rw[hD];exact ofD_dig _ _)
 have HDG:Hid (∀W,KTab W→Calls Tryz.prog 57 #[.agg (u8s PV).toArray,.int .i64 (i:Int),.string msg] W fun e w'=>e=.returned (.agg (u8s D).toArray)∧Ext W w'):=hid (fun W hW=>by
  rw[hD];have h:=digest_any PV (i:Int) msg W HPD.out HI.out HM.out hW;rw[hPV] at h⊢;exact h)
 obtain⟨sv,hsv⟩:∃f,f=sgV seed i D:=⟨_,rfl⟩
 obtain⟨sp,hsp⟩:∃f,f=sgP seed i:=⟨_,rfl⟩
 have HSV:Hid (∀t,Dig (sv t)):=hid (fun t=>by rw[hsv];exact sgV_dig _ _ _ _)
 have HSP:Hid (∀t,Dig (sp t)):=hid (fun t=>by rw[hsp];exact nodeV_dig _ _ _)
 have HAD:Hid (∀t:Nat,t<68→∀W,KTab W→Calls Tryz.prog 60 #[.int .i64 (i:Int),.int .i64 (t:Int),.int .i64 0,.int .i64 (dgN D t:Int),.agg (u8s (startD seed (i:Int) (t:Int))).toArray] W fun e w'=>e=.returned (.agg (u8s (sv t)).toArray)∧Ext W w'):=hid (fun t ht W hW=>by
  rw[hsv];have hd3:=dgN_le D t;exact advance_any (i:Int) (t:Int) 0 (dgN D t) (startD seed (i:Int) (t:Int)) W HI.out ⟨by omega,by omega⟩ (by decide) (by omega) (startD_dig _ _ _) hW)
 have HPA:Hid (∀(t:Nat),t<h→∀(mb sb ab hm:Nat) (W:World),NEnv W seed mb sb ab hm→Calls Tryz.prog 128 #[.int .i64 (t:Int),.int .i64 ((sib i t:Nat):Int),.pointer (some ⟨mb,0,none⟩),.pointer (some ⟨sb,0,none⟩),.pointer (some ⟨ab,0,none⟩)] W fun e w'=>e=.returned (.agg (u8s (sp t)).toArray)∧NR seed hm W w'):=hid (fun t ht mb sb ab hm W hW=>by
  rw[hsp];exact nd_at_any seed mb sb ab hm t (sib i t) W hW (by omega) (sib_le i t h (by omega) ht h6))
 obtain⟨L1,hL1⟩:∃L,L=E++flatD sv 68:=⟨_,rfl⟩
 have HL1E:=hid hL1;have HEND:Hid (L1++flatD sp h=signL seed h i msg):=hid (by rw[hL1,hE,hsv,hsp,hD];rfl)
 have HEB:Hid (Byt E):=hid (by rw[hE];exact encInt_byt _ HI.out.1 HI.out.2)
 have hNL:n=E.length:=hn;rw[←HEND.out];clear HEND hPV hD hsv hsp hNL hL1;clear hZ hK hE hn hle hp;go_enter Tryz.func39,Tryz.ntmps39
 go_upto_region 8 with ((first
  | (go_at_call 53;(with_reducible refine (valid_ok h w h6).mono ?_);rintro e w3 ⟨rfl,rfl⟩)
  | (go_at_call 91;(with_reducible refine (nodes_any seed w HS.out HK.out).mono ?_);rintro e w4 ⟨mb,sb,ab,hm,rfl,hN,hle,hE4⟩;have N4:=hid hN;have E4:Hid (Ext w w4):=hid hE4;have HLE:=hid hle;clear hN hE4 hle)))
 obtain⟨base,hbase⟩:∃x,x=w4.heap.size:=⟨_,rfl⟩
 have S5:Hid (SS w seed mb sb ab hm base (w4.alloc (.cells #[.pointer none,.slice none 0 0] 147)) []):=hid (by
  rw[hbase];have hE5:Ext w4 (w4.alloc (.cells #[.pointer none,.slice none 0 0] 147)):=(Ext.refl w4).alloc _;exact⟨E4.out.next hE5,N4.out.ext hE5,Bld.fresh w4.heap.size w4 (Nat.le_refl _),HLE.out,N4.out.lM,N4.out.lS,N4.out.lA,N4.out.memo.lt,Tab.lt N4.out.tab,E4.out.size,by simp⟩)
 go_upto_region 9 with fail
 obtain⟨w5,hw5⟩:∃x,x=w4.alloc (.cells #[.pointer none,.slice none 0 0] 147):=⟨_,rfl⟩
 change Code.wp _ _ _ _ (w4.alloc (.cells #[.pointer none,.slice none 0 0] 147))
 rw[←hw5] at S5⊢;rw[←hbase];clear hw5 hbase N4 E4 HLE
 go_upto_region 10 with ((first
  | (go_at_call 66;(with_reducible refine (HINT.out w5).mono ?_);rintro e w6 ⟨⟨A6,c6,rfl,hr⟩,hE6⟩;have S6:=hid (S5.out.next hE6);have HW:=hid (S6.out.write E A6 n c6 hr (by simp;omega));clear hr hE6)
  | (go_at_call 92;(with_reducible refine HW.out.mono ?_);rintro e w7 ⟨rfl,hS7,-⟩;have S7:Hid (SS w seed mb sb ab hm base w7 (E++flatD sv 0)):=hid (by have h0:=hS7;unfold flatD;simpa using h0);clear hS7)))
 clear S5 S6 HW
 go_wp2_with ((first
  | (go_at_call 128;(with_reducible refine (HAT.out mb sb ab hm w7 S7.out.env).mono ?_);rintro e w8 ⟨rfl,hR8⟩;have S8:=hid (S7.out.nr hR8);clear hR8)
  | (go_at_call 57;(with_reducible refine (HDG.out w8 S8.out.env.tab).mono ?_);rintro e w9 ⟨rfl,hE9⟩;have S9:=hid (S8.out.next hE9);clear hE9)
  | (go_at_call 56;(with_reducible refine (digits_any D w9 HDD.out.l HDD.out.b).mono ?_);rintro e wA ⟨gd,rfl,hgd,hbd,hEA⟩;have SA:=hid (S9.out.next hEA);have BD:=hid hbd;have HGD:Hid (base<gd):=hid (Nat.lt_of_lt_of_le S9.out.l7 hgd);clear hgd hbd hEA)))
 go_loopw [52] (fun x wr=>∃t:Nat,t≤68∧x=.int .i64 (t:Int)∧SS w seed mb sb ab hm base wr (E++flatD sv t)∧Blk wr gd 161 (i64s (digL D))) (fun x _=>68-(intOf x).toNat)
 case atStart=>exact⟨0,by omega,rfl,SA.out,BD.out⟩
 case round =>
  clear SA BD;obtain⟨t,ht,rfl,hss,hbd⟩:=hrel;have S0:=hid hss;have BD:=hid hbd;clear hss hbd;obtain⟨wo,rfl⟩:∃x:World,x=wr:=⟨_,rfl⟩
  by_cases hlt:t<68
  ·have cg:wo.cell? ⟨gd,t,none⟩=some (.int .i64 (dgN D t:Int)):=(BD.out.cell t).trans (dgN_cell D hlt)
   have HC:=hid (HAD.out t hlt);have HST:Hid (Calls Tryz.prog 93 #[.string seed,.int .i64 (i:Int),.int .i64 (t:Int)] wo fun e w'=>e=.returned (.agg (u8s (startD seed (i:Int) (t:Int))).toArray)∧Ext wo w'):=hid (start_any seed (i:Int) (t:Int) wo HS.out HI.out ⟨by omega,by omega⟩ S0.out.env.tab)
   generalize dgN D t=dv at *
   have HFS:Hid (flatD sv (t+1)=flatD sv t++sv t):=hid (flatD_succ sv t);have HFL:Hid ((E++flatD sv t).length=n+16*t):=hid (by rw[List.length_append,flatD_len sv (fun j _=>HSV.out j),HN.out])
   have HD:=hid (HSV.out t);obtain⟨U,hU⟩:∃U,U=sv t:=⟨_,rfl⟩
   have HU:=hid hU;have HUL:Hid ((u8s U).length=16):=hid (by rw[hU,u8s_len];exact HD.out.l)
   rw[←hU] at HC;clear hU
   go_wp2_with ((first
    | (go_at_call 93;(with_reducible refine HST.out.mono ?_);rintro e w5 ⟨rfl,hE5⟩;have S5:=hid (S0.out.next hE5);have BD5:=hid (BD.out.ext hE5);clear hE5)
    | (go_at_call 60;(with_reducible refine (HC.out w5 S5.out.env.tab).mono ?_);rintro e w6 ⟨rfl,hE6⟩;have S6:=hid (S5.out.next hE6);have BD6:=hid (BD5.out.ext hE6);clear hE6)
    | ((refine wpList_store_fresh rfl 26 (.tmp 14) (.tmp 64) rfl _ w6.heap.size rfl Z (u8s U) 26 (by rfl) (by rfl) rfl (dg_info.trans (congrArg some HUL.out.symm)) (HZL.out.trans HUL.out.symm) (u8s_one U) ?_);intro w7 hw7 hE7 hz7;have B7:=hid hw7;have S7:=hid (S6.out.next hE7);have HW:=hid (S7.out.write U (some ⟨w6.heap.size,0,none⟩) 16 16 (B7.out.rd HUL.out) (by rw[HFL.out];omega));have BD7:=hid (BD6.out.ext hE7);clear hw7 hE7 hz7)
    | (go_at_call 92;(with_reducible refine HW.out.mono ?_);rintro e w8 ⟨rfl,hS8,hK8⟩;have S8:=hid hS8;have BD8:=hid (hK8 _ _ _ (by have:=HGD.out;omega) (by decide) BD7.out);clear hS8 hK8)))
   exact⟨⟨t+1,by omega,by go_num,by rw[HFS.out,←HU.out,←List.append_assoc];exact S8.out,BD8.out⟩,by simp [intOf];omega⟩
  ·obtain rfl:t=68:=by omega
   have HLL:Hid (h≤6):=hid h6;have HL1:Hid (L1.length=n+1088):=hid (by rw[HL1E.out,List.length_append,flatD_len sv (fun j _=>HSV.out j),HN.out])
   have HLB:Hid (Byt (L1++flatD sp h)):=hid (by rw[HL1E.out];exact sg_byt_app (sg_byt_app HEB.out (flatD_byt sv (fun j _=>HSV.out j))) (flatD_byt sp (fun j _=>HSP.out j)))
   have S1:Hid (SS w seed mb sb ab hm base wo L1):=hid (by rw[HL1E.out];exact S0.out)
   clear S0 BD;rw[show ((68:Nat):Int)=68 from rfl];go_wp2_with fail
   go_loopw [69] (fun x wr=>∃t:Nat,t≤h∧x=.int .i64 (t:Int)∧SS w seed mb sb ab hm base wr (L1++flatD sp t)) (fun x _=>h-(intOf x).toNat)
   case atStart=>exact⟨0,by omega,rfl,by have h0:=S1.out;unfold flatD;simpa using h0⟩
   case round =>
    clear S1 ht;obtain⟨t,ht,rfl,hss⟩:=hrel;have S0:=hid hss;clear hss;obtain⟨wo,rfl⟩:∃x:World,x=wr:=⟨_,rfl⟩
    by_cases hlt:t<h
    ·obtain⟨s,hs'⟩:∃s,s=i / 2^t:=⟨_,rfl⟩
     have hs64:s<64:=by
      have:=Nat.div_le_self i (2^t)
      omega
     have hsr:(i:Int) / 2^t=(s:Int):=by rw[hs'];exact_mod_cast rfl
     have hxr:bits .xor .i64 (s:Int) 1=((sib i t:Nat):Int):=by rw[bits_xor1 s hs64,hs'];rfl
     have HC:=hid (HPA.out t hlt mb sb ab hm);generalize sib i t=q at *
     clear hs';have HFS:Hid (flatD sp (t+1)=flatD sp t++sp t):=hid (flatD_succ sp t);have HFL:Hid ((L1++flatD sp t).length=n+1088+16*t):=hid (by rw[List.length_append,flatD_len sp (fun j _=>HSP.out j),HL1.out])
     have HD:=hid (HSP.out t);obtain⟨U,hU⟩:∃U,U=sp t:=⟨_,rfl⟩
     have HU:=hid hU;have HUL:Hid ((u8s U).length=16):=hid (by rw[hU,u8s_len];exact HD.out.l)
     rw[←hU] at HC;clear hU
     go_wp2_with ((first
      | (go_at_call 128;(with_reducible refine (HC.out wo S0.out.env).mono ?_);rintro e w6 ⟨rfl,hR6⟩;have S6:=hid (S0.out.nr hR6);clear hR6)
      | ((refine wpList_store_fresh rfl 26 (.tmp 16) (.tmp 78) rfl _ w6.heap.size rfl Z (u8s U) 26 (by rfl) (by rfl) rfl (dg_info.trans (congrArg some HUL.out.symm)) (HZL.out.trans HUL.out.symm) (u8s_one U) ?_);intro w7 hw7 hE7 hz7;have B7:=hid hw7;have S7:=hid (S6.out.next hE7);have HW:=hid (S7.out.write U (some ⟨w6.heap.size,0,none⟩) 16 16 (B7.out.rd HUL.out) (by rw[HFL.out];omega));skip;clear hw7 hE7 hz7)
      | (go_at_call 92;(with_reducible refine HW.out.mono ?_);rintro e w8 ⟨rfl,hS8,hK8⟩;have S8:=hid hS8;skip;clear hS8 hK8)))
     go_roundw
     case rel=>exact⟨t+1,by omega,by go_num,by rw[HFS.out,←HU.out,←List.append_assoc];exact S8.out⟩
     case measure=>simp [intOf];omega
    ·obtain rfl:t=h:=by omega
     have HFL:Hid ((L1++flatD sp t).length=n+1088+16*t):=hid (by rw[List.length_append,flatD_len sp (fun j _=>HSP.out j),HL1.out])
     have HST:=hid (S0.out.string HLB.out (by rw[HFL.out];omega) (by rw[HFL.out];omega))
     go_wp2_with ((go_at_call 94;(with_reducible refine HST.out.mono ?_);rintro e w8 ⟨rfl,hE8⟩))
     go_ret2
     exact⟨rfl,hE8⟩
end
section
attribute [local go_sem ↓] wp_at_zero wp_at_succ
def valD (X:List Int)(k:Nat):List Int:=(X.drop (16*k)).take 16
theorem valD_dig {X:List Int}(h:Byt X){k:Nat}(hk:16*k+16≤X.length):Dig (valD X k):=⟨by unfold valD;rw[List.length_take,List.length_drop];omega,(h.drop _).take _⟩
theorem value_any (X:List Int)(g n c rb k:Nat)(w:World)(hl:w.cell? ⟨rb,0,none⟩=some (.slice (some ⟨g,0,none⟩) n c))(hx:Rd w w.heap.size (some ⟨g,0,none⟩) n (u8s X))(hk:16*k+16≤n)(hk2:k≤1000)(hnc:n≤c)(hc:c≤9223372036854775807)(hb:rb<w.heap.size) :
  Calls Tryz.prog 55 #[.int .i64 (k:Int),.pointer (some ⟨rb,0,none⟩)] w fun e w'=>e=.returned (.agg (u8s (valD X k)).toArray)∧Ext w w':=by
 obtain⟨i0,hi,hz0,hz1,hz2⟩:=info_parts winfo_u8;have HX:=hid hx;have HL:=hid hl;have hxl:X.length=n:=by simpa [u8s] using hx.1
 obtain⟨V,hV⟩:∃V,V=valD X k:=⟨_,rfl⟩
 have HVL:Hid ((u8s V).length=16):=hid (by rw[u8s_len,hV];unfold valD;rw[List.length_take,List.length_drop];omega)
 have HRG:Hid (∀W,Ext w W→W.rangeAt g (k*16) (u8s V)):=hid (fun W hW j v hv=>by
  obtain⟨b,o,hA,_,hcx⟩:=(hx.ext' hW).2 (by omega)
  injection hA with hA
  injection hA with e1 e2
  subst e1;subst e2
  have h:=hcx (16*k+j) v (by
   rw[hV] at hv;simp only[u8s,valD,List.map_take,List.map_drop,List.getElem?_take,List.getElem?_drop] at hv⊢
   split at hv
   ·exact hv
   ·cases hv)
  rw[Nat.zero_add,Nat.mul_comm 16 k] at h;exact h)
 have ha:=fun (W:World) (a:Option Addr) (cap:Nat)=>run_arrayAt (P:=Tryz.prog) W 26 5 16 a ((k+1)*16-k*16) cap Tryz.underlying26 (by omega)
 rw[←hV];clear hx hl hV;go_enter Tryz.func55,Tryz.ntmps55
 go_upto_region 1 with fail
 obtain⟨w3,hw3⟩:∃x,x=w.alloc (.cells (u8s (List.replicate 16 0)).toArray 26):=⟨_,rfl⟩
 change Code.wp _ _ _ _ (w.alloc (.cells (u8s (List.replicate 16 0)).toArray 26))
 rw[←hw3];have BZ:Hid (Blk w3 w.heap.size 26 (u8s (List.replicate 16 0))):=hid (by rw[hw3];exact Blk.fresh' _ _ _ _ _ rfl rfl)
 have E3:Hid (Ext w w3):=hid (by rw[hw3];exact (Ext.refl w).alloc _)
 have xl:=(E3.out.cell (p:=⟨rb,0,none⟩) hb).trans HL.out;have hr3:=hid (HRG.out w3 E3.out);have q0:¬c=16*k:=by omega
 clear hw3
 go_wp2_with (first
  | (refine wpList_load_mid rfl 26 (.tmp 11) rfl g (k*16) rfl (u8s V) _ hr3.out Tryz.underlying26 rfl (dg_info.trans (congrArg some HVL.out.symm)) ?_)
  | (refine wpList_store_blk rfl 26 (.tmp 3) (.tmp 12) (by rfl) w.heap.size (u8s V) rfl rfl BZ.out (dg_info.trans (congrArg some HVL.out.symm)) (by rw[HVL.out];rfl) (u8s_one _) ?_;intro w9 hw9 hb9))
 exact bodyPost_ret (results_blk Tryz.results55 _ _ w.heap.size 26 (u8s V) _ rfl hb9 Tryz.underlying26 rfl (dg_info.trans (congrArg some HVL.out.symm))) rfl ⟨rfl,by rw[hw9.out];exact E3.out.setRow (Nat.le_refl _) _⟩
end
end Go.Proofs.YtjeecfjeooehhaaGreatDoor