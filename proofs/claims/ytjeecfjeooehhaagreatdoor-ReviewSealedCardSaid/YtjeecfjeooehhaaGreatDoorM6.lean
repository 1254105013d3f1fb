/- Insert: a sorted list of IDs with one more. Conditions: at most 1000 of them. -/
import Derived.Test.YtjeecfjeooehhaaGreatDoorM5
import Derived.Laws.StructEq
set_option linter.unusedSimpArgs false
set_option linter.unusedVariables false
set_option maxHeartbeats 16000000
set_option maxRecDepth 100000
namespace Go.Proofs.YtjeecfjeooehhaaGreatDoor
open Go.RowKit
open Lib (hid)
section
attribute [local go_sem ↓] wp_at_zero wp_at_succ
theorem wpList_midw {P:Program}{ops:Array Oper}{rest:List Oper}{o:Oper}{a:Act}{w:World}{Q:Exit→Act→World→Prop}(hw:Region.wanted o (yielded ops a.tmps)=true)(ty:TypeId)(x:Operand)(ho:o.op=Op.load ty x)
  (b p:Nat) (hx:a.eval x=.pointer (some ⟨b,p,none⟩)) (cs:List Value) {d:TypeDesc} (hc:w.rangeAt b p cs) (hu:P.underlying ty=some d) (hd:d.isRow=true) (hi:(P.info? ty).map (·.size)=some cs.length)
  (h:wpList P ops Q rest (a.put o.dst (.agg cs.toArray)) w):wpList P ops Q (o::rest) a w :=
 BigFrame.wpList_want hw fun _ hK=>wp_load_mid ty x ho b p hx cs d hc hu hd hi (hK _ _ h)
def idsC (L:List Rid):List Value:=L.flatMap idC
theorem idsC_len (L:List Rid):(idsC L).length=L.length*3:=by
 induction L with
 | nil=>rfl
 | cons x L ih=>simp only[idsC,List.flatMap_cons,List.length_append] at ih⊢;rw[ih];simp [idC];omega
theorem idsC_one (L:List Rid):∀v∈idsC L,v.oneCell'=true:=fun v hv=>by
 obtain⟨x,_,hx⟩:=List.mem_flatMap.1 hv;exact idC_one x v hx
theorem idsC_at:∀(L:List Rid) (k:Nat) (x:Rid),L[k]?=some x→∀j,j<3→(idsC L)[k*3+j]?=(idC x)[j]?
 | [],k,x,h,_,_=>by simp at h
 | y::L,0,x,h,j,hj=>by
  simp only[List.getElem?_cons_zero,Option.some.injEq] at h
  subst h;unfold idsC;rw[List.flatMap_cons,Nat.zero_mul,Nat.zero_add,List.getElem?_append_left (by simpa [idC] using hj)]
 | y::L,k+1,x,h,j,hj=>by
  have ih:=idsC_at L k x (by simpa using h) j hj
  unfold idsC at ih⊢;rw[List.flatMap_cons,List.getElem?_append_right (by simp [idC];omega),show (k+1)*3+j-(idC y).length=k*3+j by simp [idC];omega]
  exact ih
theorem idsC_app (L M:List Rid):idsC (L++M)=idsC L++idsC M:=by unfold idsC;rw[List.flatMap_append]
theorem idsC_take (L:List Rid)(k:Nat):idsC (L.take k)=(idsC L).take (k*3):=by
 induction L generalizing k with
 | nil=>simp [idsC]
 | cons x L ih =>
  cases k with
  | zero=>simp [idsC]
  | succ k =>
   have:=ih k
   have e:(idC x).take ((k+1)*3)=idC x:=List.take_of_length_le (by simp only[idC,List.length_cons,List.length_nil];omega)
   unfold idsC at this⊢;rw[List.take_succ_cons,List.flatMap_cons,List.flatMap_cons,this,List.take_append,show (k+1)*3-(idC x).length=k*3 by simp [idC];omega,e]
theorem idsC_drop (L:List Rid)(k:Nat):idsC (L.drop k)=(idsC L).drop (k*3):=by
 induction L generalizing k with
 | nil=>simp [idsC]
 | cons x L ih =>
  cases k with
  | zero=>simp [idsC]
  | succ k =>
   have:=ih k
   have e:(idC x).drop ((k+1)*3)=[]:=List.drop_of_length_le (by simp only[idC,List.length_cons,List.length_nil];omega)
   unfold idsC at this⊢;rw[List.drop_succ_cons,List.flatMap_cons,this,List.drop_append,show (k+1)*3-(idC x).length=k*3 by simp [idC];omega,e,List.nil_append]
theorem ids_range {w:World}{b p:Nat}{L:List Rid}(hc:∀j u,(idsC L)[j]?=some u→w.cell? ⟨b,p+j,none⟩=some u){k:Nat}{x:Rid}(hx:L[k]?=some x):w.rangeAt b (p+k*3) (idC x):=fun j u hu=>by
 have hj:j<3:=(List.getElem?_eq_some_iff.1 hu).1
 have h:=hc (k*3+j) u (by rw[idsC_at L k x hx j hj];exact hu)
 rw[Nat.add_assoc];exact h
def posR (L:List Rid)(x:Rid):Nat:=L.findIdx fun y=>!lessB y x
def insR (L:List Rid)(x:Rid):List Rid:=if L[posR L x]?=some x then L else L.take (posR L x)++x::L.drop (posR L x)
theorem posR_of {L:List Rid}{x:Rid}{t:Nat}(h:∀j y,j<t→L[j]?=some y→lessB y x=true)(h2:t=L.length∨∃y,L[t]?=some y∧lessB y x=false):posR L x=t:=by
 unfold posR;rcases h2 with h2|⟨y,hy,hl⟩
 ·subst h2
  refine List.findIdx_eq_length.2 (fun z hz=>?_)
  obtain⟨j,hj,e⟩:=List.mem_iff_getElem.1 hz;have:=h j z hj (by rw[List.getElem?_eq_getElem hj,e])
  simp [this]
 ·obtain⟨ht,e⟩:=List.getElem?_eq_some_iff.1 hy
  refine (List.findIdx_eq ht).2 ⟨by rw[e,hl];rfl,fun j hj=>?_⟩
  have:=h j L[j] hj (List.getElem?_eq_getElem (by omega))
  rw[this];rfl
theorem ids_sub {w:World}{b p n:Nat}{L:List Rid}(hb:b<w.heap.size)(hlen:L.length=n)(hc:∀j u,(idsC L)[j]?=some u→w.cell? ⟨b,p+j,none⟩=some u){k:Nat}(hk:k≤n) :
  RdN w w.heap.size 3 (some ⟨b,p,none⟩) k (idsC (L.take k))∧RdN w w.heap.size 3 (some ⟨b,p+k*3,none⟩) (n-k) (idsC (L.drop k)):=by
 refine⟨⟨by rw[idsC_len,List.length_take];omega,fun _=>⟨b,p,rfl,hb,fun j u hu=>hc j u ?_⟩⟩,⟨by rw[idsC_len,List.length_drop];omega,fun _=>⟨b,p+k*3,rfl,hb,fun j u hu=>?_⟩⟩⟩
 ·rw[idsC_take,List.getElem?_take] at hu
  split at hu
  ·exact hu
  ·cases hu
 ·rw[Nat.add_assoc]
  exact hc (k*3+j) u (by rw[idsC_drop,List.getElem?_drop] at hu;exact hu)
theorem rdn_own {w:World}{base:Nat}{e:TypeId}{size n c:Nat}{A:Option Addr}{xs:List Value}(h:w.ownsRow base e size (.slice A n c) n xs):RdN w w.heap.size size A n xs:=by
 refine⟨by simpa using h.1,fun hn=>?_⟩
 rcases h.2 with ⟨hv,h0⟩|⟨g,cap,cur,hv,hg,hh,_⟩
 ·omega
 ·have hA:A=some ⟨g,0,none⟩:=by injection hv
  subst hA;refine⟨g,0,rfl,?_,fun j u hu=>?_⟩
  ·exact (h.lt g (by simp [Value.ownBlock])).2
  ·have:=h.cells (g:=g) (by simp [Value.ownBlock]) j u hu
   rw[Nat.zero_add];have e:(⟨g,0,none⟩:Addr).add j=⟨g,j,none⟩:=by unfold Addr.add;split<;>simp_all
   rwa [e] at this
theorem slice_cap {w:World}{base:Nat}{e:TypeId}{size n c:Nat}{A:Option Addr}{xs:List Value}(h:w.ownsRow base e size (.slice A n c) n xs):n≤c∧c≤maxLen:=by
 rcases h.2 with ⟨hv,h0⟩|⟨g,cap,cur,hv,hg,hh,h1,h2,_⟩
 ·injection hv with _ h1 h2;subst h1 h2;exact⟨Nat.le_refl _,by decide⟩
 ·injection hv with _ _ h3;subst h3;exact⟨h1,h2⟩
theorem own_far {w:World}{base:Nat}{e:TypeId}{size n c:Nat}{A:Option Addr}{xs:List Value}(h:w.ownsRow base e size (.slice A n c) n xs){a:Addr}(ha:A=some a):base≤a.block:=by
 rcases h.2 with ⟨hv,h0⟩|⟨g,cap,cur,hv,hg,_⟩
 ·injection hv with hv
  rw[ha] at hv
  cases hv
 ·injection hv with hv
  rw[ha] at hv;injection hv with hv
  rw[hv];exact hg
theorem rdn_setCell {w:World}{size n:Nat}{A:Option Addr}{xs:List Value}(h:RdN w w.heap.size size A n xs){p:Addr}(hne:∀a,A=some a→a.block≠p.block)(v:Value):RdN (w.setCell p v) (w.setCell p v).heap.size size A n xs:=by
 refine⟨h.1,fun hn=>?_⟩
 obtain⟨b,o,hA,hb,hc⟩:=h.2 hn;refine⟨b,o,hA,by simpa [World.setCell] using hb,fun j u hu=>?_⟩
 rw[World.cell?_of_block (Below.heap_setCell w p v b (fun e=>hne _ hA e))]
 exact hc j u hu
theorem id_info:(Tryz.prog.info? 68).map (fun i=>(i.zero,i.size,i.bytes))=some (some (.agg #[.int .i64 0,.int .i64 0,.int .i64 0]),3,24):=by kernel_rfl
theorem id_equal (a b:Rid)(w:World):(Op.equalIn 10000 68 (.agg #[.int .i64 a.s,.int .i64 a.q,.int .i64 a.i]) (.agg #[.int .i64 b.s,.int .i64 b.q,.int .i64 b.i])).run Tryz.prog w=.ok (decide (a=b)) w:=by
 have u3:=Tryz.underlying3;have a3:=Tryz.isAgg3;have z3:=Tryz.sizeOf3;have hS:Tryz.prog.underlying 68=some (.struct (Tryz.prog.fieldsOf 68)):=by kernel_rfl
 have hp:Tryz.prog.stoodInHeld 68=false:=by kernel_rfl
 rw[show (10000:Nat)=9999+1 from rfl,run_equalIn_agg w 9999 68 _ _ hS hp];simp only[Program.fieldsOf,Tryz.underlying68]
 go_simp
 obtain⟨s,q,i⟩:=a;obtain⟨s',q',i'⟩:=b;by_cases h1:s=s'<;>by_cases h2:q=q'<;>by_cases h3:i=i'<;>simp [h1,h2,h3]
theorem insert_any (L:List Rid)(x:Rid)(A:Option Addr)(n c:Nat)(w:World)(hl:RdN w w.heap.size 3 A n (idsC L))(hn:n≤1000)(hnc:n≤c)(hc:c≤9223372036854775807)(hnil:n=0→A=none∧c=0) :
  Calls Tryz.prog 30 #[.slice A n c,.agg #[.int .i64 x.s,.int .i64 x.q,.int .i64 x.i]] w fun e w'=>(∃A' n' c',e=.returned (.slice A' n' c')∧RdN w' w'.heap.size 3 A' n' (idsC (insR L x))∧n'≤n+1∧n'≤c'∧c'≤9223372036854775807∧(A'=A∨∀a,A'=some a→w.heap.size≤a.block))∧Ext w w':=by
 obtain⟨i0,hi,hz0,hz1,hz2⟩:=info_parts id_info;have HL:=hid hl;have HLN:Hid (L.length=n):=hid (by have:=hl.1;rw[idsC_len] at this;omega)
 clear hl;obtain⟨s,q,z⟩:=x;go_enter Tryz.func30,Tryz.ntmps30
 go_upto_region 1 with fail
 obtain⟨w1,hw1⟩:∃x,x=w.alloc (.cells #[.int .i64 s,.int .i64 q,.int .i64 z] 68):=⟨_,rfl⟩
 change Code.wp _ _ _ _ (w.alloc (.cells #[.int .i64 s,.int .i64 q,.int .i64 z] 68))
 rw[←hw1];have E1:Hid (Ext w w1):=hid (by rw[hw1];exact (Ext.refl w).alloc _)
 have BX:Hid (Blk w1 w.heap.size 68 [.int .i64 s,.int .i64 q,.int .i64 z]):=hid (by rw[hw1];exact Blk.fresh' _ _ _ _ _ rfl rfl)
 clear hw1;go_wp2_with fail
 go_loopw [5] (fun k wr=>∃t:Nat,t≤n∧k=.int .i64 (t:Int)∧Ext w1 wr∧∀j y,j<t→L[j]?=some y→lessB y ⟨s,q,z⟩=true) (fun k _=>n-(intOf k).toNat)
 case atStart=>exact⟨0,by omega,rfl,Ext.refl _,fun j y hj=>by omega⟩
 case round =>
  obtain⟨t,ht,rfl,hE,hz⟩:=hrel;have EO:=hid hE;have HZ:=hid hz;clear hE hz;obtain⟨wo,rfl⟩:∃x:World,x=wr:=⟨_,rfl⟩
  by_cases hlt:t<n
  ·obtain⟨b,p,hA,hb,hcc⟩:=HL.out.2 (by omega)
   subst hA;obtain⟨⟨s1,q1,z1⟩,hy⟩:∃y,L[t]?=some y:=⟨_,List.getElem?_eq_getElem (by rw[HLN.out];exact hlt)⟩
   have HY:=hid hy;have HR:Hid (∀W,Ext w1 W→W.rangeAt b (p+t*3) [.int .i64 s1,.int .i64 q1,.int .i64 z1]):=hid (fun W hW=>ids_range (L:=L) (x:=⟨s1,q1,z1⟩) (fun j u hu=>((E1.out.next hW).cell (p:=⟨b,p+j,none⟩) hb).trans (hcc j u hu)) hy)
   have HLE:Hid (∀W,Calls Tryz.prog 64 #[.agg #[.int .i64 s1,.int .i64 q1,.int .i64 z1],.agg #[.int .i64 s,.int .i64 q,.int .i64 z]] W fun e w'=>e=.returned (.bool (lessB ⟨s1,q1,z1⟩ ⟨s,q,z⟩))∧Ext W w'):=hid (fun W=>less_any ⟨s1,q1,z1⟩ ⟨s,q,z⟩ W)
   obtain⟨lb,hlb⟩:∃x,x=lessB ⟨s1,q1,z1⟩ ⟨s,q,z⟩:=⟨_,rfl⟩
   have HLB:=hid hlb;rw[←hlb] at HLE;have HQ:=hid (id_equal ⟨s1,q1,z1⟩ ⟨s,q,z⟩);obtain⟨eb,heb⟩:∃x:Bool,x=decide ((⟨s1,q1,z1⟩:Rid)=⟨s,q,z⟩):=⟨_,rfl⟩
   have HEB:=hid heb;rw[←heb] at HQ;have hlt2:decide ((t:Int)<(n:Int))=true:=decide_eq_true (by omega)
   have HLW:Hid (∀W,Ext w W→RdN W W.heap.size 3 (some ⟨b,p,none⟩) n (idsC L)):=hid (fun W hW=>(HL.out.below hW (Nat.le_refl _)).more hW.size)
   have HSV:Hid (∀W,Ext w W→RdN W W.heap.size 3 (some ⟨b,p,none⟩) t (idsC (L.take t))∧RdN W W.heap.size 3 (some ⟨b,p+t*3,none⟩) (n-t) (idsC (L.drop t))):=hid (fun W hW=>ids_sub (Nat.lt_of_lt_of_le hb hW.size) HLN.out (fun j u hu=>(hW.cell (p:=⟨b,p+j,none⟩) hb).trans (hcc j u hu)) (by omega))
   have HSU:Hid (∀W,Ext w1 W→RdN W W.heap.size 3 (some ⟨b,p,none⟩) t (idsC (L.take t))∧RdN W W.heap.size 3 (some ⟨b,p+t*3,none⟩) (n-t) (idsC (L.drop t))):=hid (fun W hW=>HSV.out W (E1.out.next hW))
   have HI1:Hid (lb=false→eb=false→insR L ⟨s,q,z⟩=L.take t++⟨s,q,z⟩::L.drop t):=hid (fun h1 h2=>by
    have hp:posR L ⟨s,q,z⟩=t:=posR_of HZ.out (Or.inr ⟨_,hy,by rw[←hlb];exact h1⟩)
    unfold insR;rw[hp,hy,if_neg];intro h;injection h with h
    rw[h2] at heb;exact of_decide_eq_false heb.symm h)
   have HI2:Hid (lb=false→eb=true→insR L ⟨s,q,z⟩=L):=hid (fun h1 h2=>by
    have hp:posR L ⟨s,q,z⟩=t:=posR_of HZ.out (Or.inr ⟨_,hy,by rw[←hlb];exact h1⟩)
    unfold insR;rw[hp,hy,if_pos];rw[h2] at heb;rw[of_decide_eq_true heb.symm])
   have HZ1:Hid (lb=true→∀j y,j<t+1→L[j]?=some y→lessB y ⟨s,q,z⟩=true):=hid (fun h1 j y hj hjy=>by
    rcases Nat.lt_or_ge j t with h|h
    ·exact HZ.out j y h hjy
    ·obtain rfl:j=t:=by omega
     rw[hy] at hjy;injection hjy with hjy
     rw[←hjy,←hlb];exact h1)
   clear hy hb hcc hlb heb;go_upto_region 2 with fail
   refine wp_region_flowG 11 ?FW1 (fun us=>?_) (by kernel_rfl) (by kernel_rfl) (fun a b=>Ext a b) Ext.refl (fun h1 h2=>h1.next h2) (fun i v W=>match i with
    | 0=>v=.int .i64 (t:Int)
    | 1=>v=.slice (some ⟨b,p,none⟩) n c
    | 2=>v=.int .i64 n
    | 3=>v=.bool true
    | 4=>v=.bool true
    | 5=>v=.slice (some ⟨b,p,none⟩) n c
    | 6=>v=.int .i64 (t:Int)
    | 7=>v=.pointer (some ⟨b,p+t*3,none⟩)
    | 8=>v=.agg #[.int .i64 s1,.int .i64 q1,.int .i64 z1]
    | 9=>v=.agg #[.int .i64 s,.int .i64 q,.int .i64 z]
    | 10=>v=.bool lb
    | _=>True) ?_ ?_
   case refine_1 =>
    simp only[List.take_succ_cons,List.take_zero,flowAct,Nat.zero_add,Nat.reduceAdd,Act.put,List.setIfInBounds_toArray,List.set_cons_succ,List.set_cons_zero]
    rfl
   ·simp only[List.take_succ_cons,List.take_zero,flowStepsG]
    refine⟨?_,?_,?_,?_,?_,?_,?_,?_,?_,?_,?_,trivial⟩
    ·intro us W K HE hd HK
     dsimp only at HK⊢;clear hd;go_wp2_with fail
     exact K_at (Kz HK) (by kernel_rfl)
    ·intro us W K HE hd HK
     dsimp only at HK⊢;clear hd;go_wp2_with fail
     exact K_at (Kz HK) (by kernel_rfl)
    ·intro us W K HE hd HK
     have d1:=hd 1 (by kernel_rfl)
     dsimp only at HK⊢;rw[d1] at HK⊢;clear hd d1;go_wp2_with fail
     exact K_at (Kz HK) (by kernel_rfl)
    ·intro us W K HE hd HK
     have d0:=hd 0 (by kernel_rfl)
     have d2:=hd 2 (by kernel_rfl)
     dsimp only at HK⊢;rw[d0,d2] at HK⊢;clear hd d0 d2;go_wp2_with fail
     exact K_at (Kz HK) (by kernel_rfl)
    ·intro us W K HE hd HK
     have d3:=hd 3 (by kernel_rfl)
     dsimp only at HK⊢;rw[d3] at HK⊢;clear hd d3;go_wp2_with fail
     exact K_at (Kz HK) (by kernel_rfl)
    ·intro us W K HE hd HK
     have d4:=hd 4 (by kernel_rfl)
     dsimp only at HK⊢;rw[d4] at HK⊢;clear hd d4;go_wp2_with fail
     exact K_at (Kz HK) (by kernel_rfl)
    ·intro us W K HE hd HK
     have d4:=hd 4 (by kernel_rfl)
     dsimp only at HK⊢;rw[d4] at HK⊢;clear hd d4;go_wp2_with fail
     exact K_at (Kz HK) (by kernel_rfl)
    ·intro us W K HE hd HK
     have d4:=hd 4 (by kernel_rfl)
     have d5:=hd 5 (by kernel_rfl)
     have d6:=hd 6 (by kernel_rfl)
     dsimp only at HK⊢;rw[d4,d5,d6] at HK⊢;clear hd d4 d5 d6;go_wp2_with fail
     exact K_at (Kz HK) (by kernel_rfl)
    ·intro us W K HE hd HK
     have d4:=hd 4 (by kernel_rfl)
     have d7:=hd 7 (by kernel_rfl)
     have HRW:=hid (HR.out W (EO.out.next (sg_undrew HE.out)));dsimp only at HK⊢;rw[d4,d7] at HK⊢;clear hd d4 d7;go_wp2_with ((refine wpList_midw (by rfl) 68 (.tmp 14) rfl b (p+t*3) rfl [.int .i64 s1,.int .i64 q1,.int .i64 z1] HRW.out Tryz.underlying68 rfl (info_id.trans rfl) ?_))
     exact K_at (Kz HK) (by kernel_rfl)
    ·intro us W K HE hd HK
     have d4:=hd 4 (by kernel_rfl)
     have BXW:=hid (BX.out.ext (EO.out.next (sg_undrew HE.out)));dsimp only at HK⊢;rw[d4] at HK⊢;clear hd d4;go_wp2_with ((refine wpList_load_want (by rfl) 68 (.tmp 3) rfl w.heap.size (by kernel_rfl) BXW.out Tryz.underlying68 rfl (info_id.trans rfl) ?_))
     exact K_at (Kz HK) (by kernel_rfl)
    ·intro us W K HE hd HK
     have d4:=hd 4 (by kernel_rfl)
     have d8:=hd 8 (by kernel_rfl)
     have d9:=hd 9 (by kernel_rfl)
     dsimp only at HK⊢;rw[d4,d8,d9] at HK⊢;clear hd d4 d8 d9;go_wp2_with ((go_at_call 64;(with_reducible refine (HLE.out W).mono ?_);rintro e w6 ⟨rfl,hB6⟩))
     exact K_at (HK.out (.bool lb) w6 (fun _ _=>rfl) hB6) (by kernel_rfl)
   ·intro us W hE hd
    try dsimp only
    have d10:=hd 10 (by decide)
    have d4:=hd 4 (by decide)
    simp only[List.drop_succ_cons,List.drop_zero]
    rw[d4,d10];have EW:=hid (EO.out.next (sg_undrew hE));clear hd hE d4 d10
    cases lb
    ·go_upto_region 4 with fail
     clear EO;have EO:=EW
     refine wp_region_flowG 11 ?FW2 (fun us=>?_) (by kernel_rfl) (by kernel_rfl) (fun a b=>Ext a b) Ext.refl (fun h1 h2=>h1.next h2) (fun i v W=>match i with
      | 0=>v=.int .i64 (t:Int)
      | 1=>v=.slice (some ⟨b,p,none⟩) n c
      | 2=>v=.int .i64 n
      | 3=>v=.bool true
      | 4=>v=.bool true
      | 5=>v=.slice (some ⟨b,p,none⟩) n c
      | 6=>v=.int .i64 (t:Int)
      | 7=>v=.pointer (some ⟨b,p+t*3,none⟩)
      | 8=>v=.agg #[.int .i64 s1,.int .i64 q1,.int .i64 z1]
      | 9=>v=.agg #[.int .i64 s,.int .i64 q,.int .i64 z]
      | 10=>v=.bool eb
      | _=>True) ?_ ?_
     case refine_1 =>
      simp only[List.take_succ_cons,List.take_zero,flowAct,Nat.zero_add,Nat.reduceAdd,Act.put,List.setIfInBounds_toArray,List.set_cons_succ,List.set_cons_zero]
      rfl
     ·simp only[List.take_succ_cons,List.take_zero,flowStepsG]
      refine⟨?_,?_,?_,?_,?_,?_,?_,?_,?_,?_,?_,trivial⟩
      ·intro us W K HE hd HK
       dsimp only at HK⊢;clear hd;go_wp2_with fail
       exact K_at (Kz HK) (by kernel_rfl)
      ·intro us W K HE hd HK
       dsimp only at HK⊢;clear hd;go_wp2_with fail
       exact K_at (Kz HK) (by kernel_rfl)
      ·intro us W K HE hd HK
       have d1:=hd 1 (by kernel_rfl)
       dsimp only at HK⊢;rw[d1] at HK⊢;clear hd d1;go_wp2_with fail
       exact K_at (Kz HK) (by kernel_rfl)
      ·intro us W K HE hd HK
       have d0:=hd 0 (by kernel_rfl)
       have d2:=hd 2 (by kernel_rfl)
       dsimp only at HK⊢;rw[d0,d2] at HK⊢;clear hd d0 d2;go_wp2_with fail
       exact K_at (Kz HK) (by kernel_rfl)
      ·intro us W K HE hd HK
       have d3:=hd 3 (by kernel_rfl)
       dsimp only at HK⊢;rw[d3] at HK⊢;clear hd d3;go_wp2_with fail
       exact K_at (Kz HK) (by kernel_rfl)
      ·intro us W K HE hd HK
       have d4:=hd 4 (by kernel_rfl)
       dsimp only at HK⊢;rw[d4] at HK⊢;clear hd d4;go_wp2_with fail
       exact K_at (Kz HK) (by kernel_rfl)
      ·intro us W K HE hd HK
       have d4:=hd 4 (by kernel_rfl)
       dsimp only at HK⊢;rw[d4] at HK⊢;clear hd d4;go_wp2_with fail
       exact K_at (Kz HK) (by kernel_rfl)
      ·intro us W K HE hd HK
       have d4:=hd 4 (by kernel_rfl)
       have d5:=hd 5 (by kernel_rfl)
       have d6:=hd 6 (by kernel_rfl)
       dsimp only at HK⊢;rw[d4,d5,d6] at HK⊢;clear hd d4 d5 d6;go_wp2_with fail
       exact K_at (Kz HK) (by kernel_rfl)
      ·intro us W K HE hd HK
       have d4:=hd 4 (by kernel_rfl)
       have d7:=hd 7 (by kernel_rfl)
       have HRW:=hid (HR.out W (EO.out.next (sg_undrew HE.out)));dsimp only at HK⊢;rw[d4,d7] at HK⊢;clear hd d4 d7;go_wp2_with ((refine wpList_midw (by rfl) 68 (.tmp 28) rfl b (p+t*3) rfl [.int .i64 s1,.int .i64 q1,.int .i64 z1] HRW.out Tryz.underlying68 rfl (info_id.trans rfl) ?_))
       exact K_at (Kz HK) (by kernel_rfl)
      ·intro us W K HE hd HK
       have d4:=hd 4 (by kernel_rfl)
       have BXW:=hid (BX.out.ext (EO.out.next (sg_undrew HE.out)));dsimp only at HK⊢;rw[d4] at HK⊢;clear hd d4;go_wp2_with ((refine wpList_load_want (by rfl) 68 (.tmp 3) rfl w.heap.size (by kernel_rfl) BXW.out Tryz.underlying68 rfl (info_id.trans rfl) ?_))
       exact K_at (Kz HK) (by kernel_rfl)
      ·intro us W K HE hd HK
       have d4:=hd 4 (by kernel_rfl)
       have d8:=hd 8 (by kernel_rfl)
       have d9:=hd 9 (by kernel_rfl)
       have hq:=HQ.out;dsimp only at HK⊢;rw[d4,d8,d9] at HK⊢;clear hd d4 d8 d9;go_wp2_with fail
       exact K_at (Kz HK) (by kernel_rfl)
     ·intro us W hE hd
      try dsimp only
      have d10:=hd 10 (by decide)
      have d4:=hd 4 (by decide)
      simp only[List.drop_succ_cons,List.drop_zero]
      rw[d4,d10];have EW2:=hid ((EO.out.next (sg_undrew hE)));clear hd hE d4 d10;have EWW:Hid (Ext w W):=hid (E1.out.next EW2.out);have HWB:Hid (w.heap.size≤W.heap.size):=hid EWW.out.size
      cases eb
      ·have HSUB:=hid (HSU.out W EW2.out)
       have BXW2:=hid (BX.out.ext EW2.out);have HINS:=hid (HI1.out rfl rfl);have HSB:Hid (∀W,Ext w W→RdN W W.heap.size 3 (some ⟨b,p+t*3,none⟩) (n-t) (idsC (L.drop t))):=hid (fun W hW=>(HSV.out W hW).2)
       have hct:¬c=t:=by omega
       go_upto_region 8 with ((first|(at_builtin;refine wpList_app rfl (.tmp 34) (.tmp 37) 24 rfl w.heap.size 68 i0 (.agg #[.int .i64 0,.int .i64 0,.int .i64 0]) 3 24 Tryz.underlying24 hi hz0 hz1 hz2 rfl (by omega) none 0 0 [] rfl (World.ownsRow_nil _ _ _ _) W.heap.size (some ⟨b,p,none⟩) t c (idsC (L.take t)) rfl HSUB.out.1 (idsC_one _) (by simp only[maxLen];omega) (by omega) HWB.out ?_;rw[Nat.zero_add,List.nil_append];intro A1 c1 w3 ho3 hg3;have HO3:=hid ho3;have E3:Hid (Ext w w3):=hid (EWW.out.grown hg3 HWB.out (fun k hk=>by cases hk));have BX3:Hid (Blk w3 w.heap.size 68 [.int .i64 s,.int .i64 q,.int .i64 z]):=hid (BXW2.out.grown hg3 (fun e=>by cases e));clear ho3 hg3)))
       go_upto_region 9 with ((first|(refine wpList_load_blk rfl 68 (.tmp 3) rfl w.heap.size (by kernel_rfl) BX3.out Tryz.underlying68 rfl (info_id.trans rfl) ?_)|(at_builtin;refine wpList_app rfl (.tmp 39) (.tmp 41) 24 rfl w.heap.size 68 i0 (.agg #[.int .i64 0,.int .i64 0,.int .i64 0]) 3 24 Tryz.underlying24 hi hz0 hz1 hz2 rfl (by omega) A1 t c1 _ rfl (HO3.out.alloc _) (w3.heap.size+1) (some ⟨w3.heap.size,0,none⟩) 1 1 [.int .i64 s,.int .i64 q,.int .i64 z] rfl (RdN.fresh _ _ _ 3 1 rfl rfl rfl) (idC_one ⟨s,q,z⟩) (by simp only[maxLen];omega) (by omega) (by rw[World.size_alloc];have:=E3.out.size;omega) ?_;intro A2 c2 w5 ho5 hg5;have HO5:=hid ho5;have E5:Hid (Ext w w5):=hid (below_app (E3.out.alloc _) hg5 (HO3.out.alloc _) (Nat.le_refl _) (by rw[World.size_alloc];have:=E3.out.size;omega));have HS5:=hid (HSB.out w5 E5.out);clear ho5 hg5)))
       go_wp2_with ((first|(at_builtin;refine wpList_app rfl (.tmp 43) (.tmp 46) 24 rfl w.heap.size 68 i0 (.agg #[.int .i64 0,.int .i64 0,.int .i64 0]) 3 24 Tryz.underlying24 hi hz0 hz1 hz2 rfl (by omega) A2 (t+1) c2 _ rfl HO5.out w5.heap.size (some ⟨b,p+t*3,none⟩) (n-t) (c-t) (idsC (L.drop t)) rfl HS5.out (idsC_one _) (by simp only[maxLen];omega) (by omega) E5.out.size ?_;intro A3 c3 w7 ho7 hg7;have HO7:=hid ho7;have E7:Hid (Ext w w7):=hid (below_app E5.out hg7 HO5.out (Nat.le_refl _) E5.out.size);clear ho7 hg7)))
       go_ret
       have hcp:=slice_cap HO7.out;unfold maxLen at hcp;refine⟨⟨A3,_,c3,rfl,?_,?_,hcp.1,hcp.2,Or.inr (fun a e=>own_far HO7.out e)⟩,E7.out⟩
       ·have hr:=rdn_own HO7.out
        rw[HINS.out,idsC_app,show idsC ((⟨s,q,z⟩:Rid)::L.drop t)=idC ⟨s,q,z⟩++idsC (L.drop t) from rfl,←List.append_assoc];exact hr
       ·omega
      ·have HINS:=hid (HI2.out rfl rfl)
       go_wp2_with fail
       go_ret
       exact⟨⟨some ⟨b,p,none⟩,n,c,rfl,by rw[HINS.out];exact (HLW.out W EWW.out),by omega,hnc,hc,Or.inl rfl⟩,EWW.out⟩
    ·go_wp2_with fail
     exact⟨⟨t+1,by omega,by go_num,EW.out,HZ1.out rfl⟩,by simp [intOf];omega⟩
  ·obtain rfl:t=n:=by omega
   have hlt2:decide ((t:Int)<(t:Int))=false:=decide_eq_false (by omega)
   have HINS:Hid (insR L ⟨s,q,z⟩=L.take t++⟨s,q,z⟩::L.drop t):=hid (by
    have hp:posR L ⟨s,q,z⟩=t:=posR_of HZ.out (Or.inl HLN.out.symm);unfold insR;rw[hp,List.getElem?_eq_none (by rw[HLN.out];exact Nat.le_refl _),if_neg (by simp)])
   have HDR:Hid (idsC (L.drop t)=[]):=hid (by rw[List.drop_of_length_le (by rw[HLN.out];exact Nat.le_refl _)];rfl)
   have HTK:Hid (idsC (L.take t)=idsC L):=hid (by rw[List.take_of_length_le (by rw[HLN.out];exact Nat.le_refl _)])
   have HSB0:Hid (∀(A:Option Addr) (W:World),RdN W W.heap.size 3 A 0 (idsC (L.drop t))):=hid (fun A W=>⟨by rw[HDR.out];rfl,fun h=>absurd h (Nat.lt_irrefl _)⟩)
   have HLW:Hid (∀W,Ext w W→RdN W W.heap.size 3 A t (idsC (L.take t))):=hid (fun W hW=>by rw[HTK.out];exact (HL.out.below hW (Nat.le_refl _)).more hW.size)
   go_upto_region 2 with fail
   go_wp2_with fail
   go_quiet (fail)
   go_upto_region 4 with fail
   go_wp2_with fail
   go_quiet (fail)
   generalize hW:(World.drewN _ _)=W
   have EW2:Hid (Ext w1 W):=hid (by rw[←hW];first|exact EO.out.drewN _|exact (EO.out.drewN _).drewN _)
   clear hW;have EWW:Hid (Ext w W):=hid (E1.out.next EW2.out);have HWB:Hid (w.heap.size≤W.heap.size):=hid EWW.out.size;have BXW2:=hid (BX.out.ext EW2.out);rcases Nat.eq_zero_or_pos t with h0|h0
   ·obtain⟨rfl,rfl⟩:=hnil h0
    subst h0;have HSUB:Hid (RdN W W.heap.size 3 none 0 (idsC (L.take 0))∧True):=hid ⟨HLW.out W EWW.out,trivial⟩;have HSB:Hid (∀W,Ext w W→RdN W W.heap.size 3 none 0 (idsC (L.drop 0))):=hid (fun W _=>HSB0.out none W)
    go_upto_region 8 with ((first|(at_builtin;refine wpList_app rfl (.tmp 34) (.tmp 37) 24 rfl w.heap.size 68 i0 (.agg #[.int .i64 0,.int .i64 0,.int .i64 0]) 3 24 Tryz.underlying24 hi hz0 hz1 hz2 rfl (by omega) none 0 0 [] rfl (World.ownsRow_nil _ _ _ _) W.heap.size none 0 0 (idsC (L.take 0)) rfl HSUB.out.1 (idsC_one _) (by simp only[maxLen];omega) (by omega) HWB.out ?_;rw[Nat.zero_add,List.nil_append];intro A1 c1 w3 ho3 hg3;have HO3:=hid ho3;have E3:Hid (Ext w w3):=hid (EWW.out.grown hg3 HWB.out (fun k hk=>by cases hk));have BX3:Hid (Blk w3 w.heap.size 68 [.int .i64 s,.int .i64 q,.int .i64 z]):=hid (BXW2.out.grown hg3 (fun e=>by cases e));clear ho3 hg3)))
    go_upto_region 9 with ((first|(refine wpList_load_blk rfl 68 (.tmp 3) rfl w.heap.size (by kernel_rfl) BX3.out Tryz.underlying68 rfl (info_id.trans rfl) ?_)|(at_builtin;refine wpList_app rfl (.tmp 39) (.tmp 41) 24 rfl w.heap.size 68 i0 (.agg #[.int .i64 0,.int .i64 0,.int .i64 0]) 3 24 Tryz.underlying24 hi hz0 hz1 hz2 rfl (by omega) A1 0 c1 _ rfl (HO3.out.alloc _) (w3.heap.size+1) (some ⟨w3.heap.size,0,none⟩) 1 1 [.int .i64 s,.int .i64 q,.int .i64 z] rfl (RdN.fresh _ _ _ 3 1 rfl rfl rfl) (idC_one ⟨s,q,z⟩) (by simp only[maxLen];omega) (by omega) (by rw[World.size_alloc];have:=E3.out.size;omega) ?_;intro A2 c2 w5 ho5 hg5;have HO5:=hid ho5;have E5:Hid (Ext w w5):=hid (below_app (E3.out.alloc _) hg5 (HO3.out.alloc _) (Nat.le_refl _) (by rw[World.size_alloc];have:=E3.out.size;omega));have HS5:=hid (HSB.out w5 E5.out);clear ho5 hg5)))
    go_wp2_with ((first|(at_builtin;refine wpList_app rfl (.tmp 43) (.tmp 46) 24 rfl w.heap.size 68 i0 (.agg #[.int .i64 0,.int .i64 0,.int .i64 0]) 3 24 Tryz.underlying24 hi hz0 hz1 hz2 rfl (by omega) A2 (0+1) c2 _ rfl HO5.out w5.heap.size none 0 0 (idsC (L.drop 0)) rfl HS5.out (idsC_one _) (by simp only[maxLen];omega) (by omega) E5.out.size ?_;intro A3 c3 w7 ho7 hg7;have HO7:=hid ho7;have E7:Hid (Ext w w7):=hid (below_app E5.out hg7 HO5.out (Nat.le_refl _) E5.out.size);clear ho7 hg7)))
    go_ret
    have hcp:=slice_cap HO7.out;unfold maxLen at hcp;refine⟨⟨A3,_,c3,rfl,?_,?_,hcp.1,hcp.2,Or.inr (fun a e=>own_far HO7.out e)⟩,E7.out⟩
    ·have hr:=rdn_own HO7.out
     rw[HINS.out,idsC_app,show idsC ((⟨s,q,z⟩:Rid)::L.drop 0)=idC ⟨s,q,z⟩++idsC (L.drop 0) from rfl,←List.append_assoc];exact hr
    ·omega
   ·obtain⟨b,p,hA,hb,hcc⟩:=HL.out.2 h0
    subst hA;clear hb hcc;have HSUB:Hid (RdN W W.heap.size 3 (some ⟨b,p,none⟩) t (idsC (L.take t))∧True):=hid ⟨HLW.out W EWW.out,trivial⟩;by_cases hct:c=t
    ·subst hct
     have HSB:Hid (∀W,Ext w W→RdN W W.heap.size 3 (some ⟨b,p,none⟩) 0 (idsC (L.drop c))):=hid (fun W _=>HSB0.out _ W)
     go_upto_region 8 with ((first|(at_builtin;refine wpList_app rfl (.tmp 34) (.tmp 37) 24 rfl w.heap.size 68 i0 (.agg #[.int .i64 0,.int .i64 0,.int .i64 0]) 3 24 Tryz.underlying24 hi hz0 hz1 hz2 rfl (by omega) none 0 0 [] rfl (World.ownsRow_nil _ _ _ _) W.heap.size (some ⟨b,p,none⟩) c c (idsC (L.take c)) rfl HSUB.out.1 (idsC_one _) (by simp only[maxLen];omega) (by omega) HWB.out ?_;rw[Nat.zero_add,List.nil_append];intro A1 c1 w3 ho3 hg3;have HO3:=hid ho3;have E3:Hid (Ext w w3):=hid (EWW.out.grown hg3 HWB.out (fun k hk=>by cases hk));have BX3:Hid (Blk w3 w.heap.size 68 [.int .i64 s,.int .i64 q,.int .i64 z]):=hid (BXW2.out.grown hg3 (fun e=>by cases e));clear ho3 hg3)))
     go_upto_region 9 with ((first|(refine wpList_load_blk rfl 68 (.tmp 3) rfl w.heap.size (by kernel_rfl) BX3.out Tryz.underlying68 rfl (info_id.trans rfl) ?_)|(at_builtin;refine wpList_app rfl (.tmp 39) (.tmp 41) 24 rfl w.heap.size 68 i0 (.agg #[.int .i64 0,.int .i64 0,.int .i64 0]) 3 24 Tryz.underlying24 hi hz0 hz1 hz2 rfl (by omega) A1 c c1 _ rfl (HO3.out.alloc _) (w3.heap.size+1) (some ⟨w3.heap.size,0,none⟩) 1 1 [.int .i64 s,.int .i64 q,.int .i64 z] rfl (RdN.fresh _ _ _ 3 1 rfl rfl rfl) (idC_one ⟨s,q,z⟩) (by simp only[maxLen];omega) (by omega) (by rw[World.size_alloc];have:=E3.out.size;omega) ?_;intro A2 c2 w5 ho5 hg5;have HO5:=hid ho5;have E5:Hid (Ext w w5):=hid (below_app (E3.out.alloc _) hg5 (HO3.out.alloc _) (Nat.le_refl _) (by rw[World.size_alloc];have:=E3.out.size;omega));have HS5:=hid (HSB.out w5 E5.out);clear ho5 hg5)))
     go_wp2_with ((first|(at_builtin;refine wpList_app rfl (.tmp 43) (.tmp 46) 24 rfl w.heap.size 68 i0 (.agg #[.int .i64 0,.int .i64 0,.int .i64 0]) 3 24 Tryz.underlying24 hi hz0 hz1 hz2 rfl (by omega) A2 (c+1) c2 _ rfl HO5.out w5.heap.size (some ⟨b,p,none⟩) 0 0 (idsC (L.drop c)) rfl HS5.out (idsC_one _) (by simp only[maxLen];omega) (by omega) E5.out.size ?_;intro A3 c3 w7 ho7 hg7;have HO7:=hid ho7;have E7:Hid (Ext w w7):=hid (below_app E5.out hg7 HO5.out (Nat.le_refl _) E5.out.size);clear ho7 hg7)))
     go_ret
     have hcp:=slice_cap HO7.out;unfold maxLen at hcp;refine⟨⟨A3,_,c3,rfl,?_,?_,hcp.1,hcp.2,Or.inr (fun a e=>own_far HO7.out e)⟩,E7.out⟩
     ·have hr:=rdn_own HO7.out
      rw[HINS.out,idsC_app,show idsC ((⟨s,q,z⟩:Rid)::L.drop c)=idC ⟨s,q,z⟩++idsC (L.drop c) from rfl,←List.append_assoc];exact hr
     ·omega
    ·have HSB:Hid (∀W,Ext w W→RdN W W.heap.size 3 (some ⟨b,p+t*3,none⟩) 0 (idsC (L.drop t))):=hid (fun W _=>HSB0.out _ W)
     go_upto_region 8 with ((first|(at_builtin;refine wpList_app rfl (.tmp 34) (.tmp 37) 24 rfl w.heap.size 68 i0 (.agg #[.int .i64 0,.int .i64 0,.int .i64 0]) 3 24 Tryz.underlying24 hi hz0 hz1 hz2 rfl (by omega) none 0 0 [] rfl (World.ownsRow_nil _ _ _ _) W.heap.size (some ⟨b,p,none⟩) t c (idsC (L.take t)) rfl HSUB.out.1 (idsC_one _) (by simp only[maxLen];omega) (by omega) HWB.out ?_;rw[Nat.zero_add,List.nil_append];intro A1 c1 w3 ho3 hg3;have HO3:=hid ho3;have E3:Hid (Ext w w3):=hid (EWW.out.grown hg3 HWB.out (fun k hk=>by cases hk));have BX3:Hid (Blk w3 w.heap.size 68 [.int .i64 s,.int .i64 q,.int .i64 z]):=hid (BXW2.out.grown hg3 (fun e=>by cases e));clear ho3 hg3)))
     go_upto_region 9 with ((first|(refine wpList_load_blk rfl 68 (.tmp 3) rfl w.heap.size (by kernel_rfl) BX3.out Tryz.underlying68 rfl (info_id.trans rfl) ?_)|(at_builtin;refine wpList_app rfl (.tmp 39) (.tmp 41) 24 rfl w.heap.size 68 i0 (.agg #[.int .i64 0,.int .i64 0,.int .i64 0]) 3 24 Tryz.underlying24 hi hz0 hz1 hz2 rfl (by omega) A1 t c1 _ rfl (HO3.out.alloc _) (w3.heap.size+1) (some ⟨w3.heap.size,0,none⟩) 1 1 [.int .i64 s,.int .i64 q,.int .i64 z] rfl (RdN.fresh _ _ _ 3 1 rfl rfl rfl) (idC_one ⟨s,q,z⟩) (by simp only[maxLen];omega) (by omega) (by rw[World.size_alloc];have:=E3.out.size;omega) ?_;intro A2 c2 w5 ho5 hg5;have HO5:=hid ho5;have E5:Hid (Ext w w5):=hid (below_app (E3.out.alloc _) hg5 (HO3.out.alloc _) (Nat.le_refl _) (by rw[World.size_alloc];have:=E3.out.size;omega));have HS5:=hid (HSB.out w5 E5.out);clear ho5 hg5)))
     go_wp2_with ((first|(at_builtin;refine wpList_app rfl (.tmp 43) (.tmp 46) 24 rfl w.heap.size 68 i0 (.agg #[.int .i64 0,.int .i64 0,.int .i64 0]) 3 24 Tryz.underlying24 hi hz0 hz1 hz2 rfl (by omega) A2 (t+1) c2 _ rfl HO5.out w5.heap.size (some ⟨b,p+t*3,none⟩) 0 (c-t) (idsC (L.drop t)) rfl HS5.out (idsC_one _) (by simp only[maxLen];omega) (by omega) E5.out.size ?_;intro A3 c3 w7 ho7 hg7;have HO7:=hid ho7;have E7:Hid (Ext w w7):=hid (below_app E5.out hg7 HO5.out (Nat.le_refl _) E5.out.size);clear ho7 hg7)))
     go_ret
     have hcp:=slice_cap HO7.out;unfold maxLen at hcp;refine⟨⟨A3,_,c3,rfl,?_,?_,hcp.1,hcp.2,Or.inr (fun a e=>own_far HO7.out e)⟩,E7.out⟩
     ·have hr:=rdn_own HO7.out
      rw[HINS.out,idsC_app,show idsC ((⟨s,q,z⟩:Rid)::L.drop t)=idC ⟨s,q,z⟩++idsC (L.drop t) from rfl,←List.append_assoc];exact hr
     ·omega
end
end Go.Proofs.YtjeecfjeooehhaaGreatDoor