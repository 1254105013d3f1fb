/- Insertion sort of a row of reviews. Conditions: the row is a block of its own, of at most 10^9 reviews. -/
import Derived.Test.YtjeecfjeooehhaaGreatDoorM14
set_option linter.unusedSimpArgs false
set_option linter.unusedVariables false
set_option maxHeartbeats 16000000
set_option maxRecDepth 100000
namespace Go.Proofs.YtjeecfjeooehhaaGreatDoor
open Go.RowKit
open Lib (hid)
section
attribute [local go_sem ↓] wp_at_zero wp_at_succ
def putR (cs:List Value)(o:Nat)(vs:List Value):List Value:=cs.take o++vs++cs.drop (o+vs.length)
theorem putR_len {cs vs:List Value}{o:Nat}(h:o+vs.length≤cs.length):(putR cs o vs).length=cs.length:=by
 unfold putR;simp only[List.length_append,List.length_take,List.length_drop]
 omega
theorem wp_store_seg {P:Program}{op:Oper}{a:Act}{w:World}{K:Act→World→Prop}{Q:Exit→Act→World→Prop}(ty:TypeId)(x y:Operand)(ho:op.op=.store ty x y)
  (g o:Nat) (vs:List Value) (hx:a.eval x=.pointer (some ⟨g,o,none⟩)) (hy:a.eval y=.agg vs.toArray) {t:TypeId} {cs:List Value} (hb:Blk w g t cs) (hi:(P.info? ty).map (·.size)=some vs.length) (hl:o+vs.length≤cs.length) (h1:∀v∈vs,v.oneCell'=true)
  (h:K (a.put op.dst undef) (w.setRow g (putR cs o vs).toArray)):op.wp P a w K Q:=by
 have hst:=run_storeCells_at P g o t vs 0 cs.toArray w hb (by simpa using hl) h1
 unfold Oper.wp execOp
 cases hq:P.info? ty with
 | none=>simp [hq] at hi
 | some i =>
  have hs:vs.length=i.size:=by simp [hq] at hi;omega
  simp only[Nat.add_zero] at hst
  have hsv:(storeVar ty ⟨g,o,none⟩ (.agg vs.toArray)).run P w=.ok () (w.setRow g (putR cs o vs).toArray):=by
   simp [storeVar,sizeOf,typeInfo,hq,Value.cells,hs,hst,putR]
  simp only[ho,hx,hy,Instr.storeAt,Instr.sureAddr,Sem.run_bind,Sem.run_pure,Result.andThen_ok,hsv]
  exact h
theorem wpList_store_seg {P:Program}{ops:Array Oper}{rest:List Oper}{op:Oper}{a:Act}{w:World}{Q:Exit→Act→World→Prop}(hgd:op.guard=none)(ty:TypeId)(x y:Operand)(ho:op.op=.store ty x y)
  (g o:Nat) (vs:List Value) (hx:a.eval x=.pointer (some ⟨g,o,none⟩)) (hy:a.eval y=.agg vs.toArray) {t:TypeId} {cs:List Value} (hb:Blk w g t cs) (hi:(P.info? ty).map (·.size)=some vs.length) (hl:o+vs.length≤cs.length) (h1:∀v∈vs,v.oneCell'=true)
  (h:∀w2,Hid (w2=w.setRow g (putR cs o vs).toArray)→Blk w2 g t (putR cs o vs)→wpList P ops Q rest (a.put op.dst undef) w2):wpList P ops Q (op::rest) a w :=
 wpList_plain hgd fun _ hK=>wp_store_seg ty x y ho g o vs hx hy hb hi hl h1 (hK _ _ (h _ (hid rfl) (hb.setRow _)))
theorem rxsC_app (L M:List RX):rxsC (L++M)=rxsC L++rxsC M:=by unfold rxsC;rw[List.flatMap_append]
theorem rxsC_len (L:List RX)(h:∀x∈L,(rxC x).length=22):(rxsC L).length=L.length*22:=flatK_len rxC 22 L h
theorem swap_cells (P Q:List RX)(x y:RX)(tl:List Value)(k:Nat)(hk:P.length=k)(hP:∀z∈P,(rxC z).length=22)(hx:(rxC x).length=22)(hy:(rxC y).length=22) :
  putR (putR (rxsC (P++x::y::Q)++tl) ((k+1)*22) (rxC x)) (k*22) (rxC y)=rxsC (P++y::x::Q)++tl:=by
 have hA:=rxsC_len P hP;rw[hk] at hA;have e1:rxsC (P++x::y::Q)=rxsC P++(rxC x++(rxC y++rxsC Q)):=by rw[rxsC_app];rfl
 have e2:rxsC (P++y::x::Q)=rxsC P++(rxC y++(rxC x++rxsC Q)):=by rw[rxsC_app];rfl
 rw[e1,e2];generalize rxsC P=A at *
 generalize rxC x=X at *
 generalize rxC y=Y at *
 generalize rxsC Q=B at *
 have s1:putR (A++(X++(Y++B))++tl) ((k+1)*22) X=A++(X++(X++(B++tl))):=by
  unfold putR;have t1:(A++(X++(Y++B))++tl)=(A++X)++(Y++(B++tl)):=by simp
  rw[t1,List.take_left' (by simp;omega)]
  have d1:(A++X++(Y++(B++tl)))=(A++X++Y)++(B++tl):=by simp
  rw[d1,List.drop_left' (by simp;omega)]
  simp
 rw[s1];unfold putR;rw[List.take_left' (by omega)]
 have d2:(A++(X++(X++(B++tl))))=(A++X)++(X++(B++tl)):=by simp
 rw[d2,List.drop_left' (by simp;omega)]
 simp
def leK (a b:RX):Prop:=¬ltK b.r a.r
theorem leK_trans {a b c:RX}(h1:leK a b)(h2:leK b c):leK a c:=by unfold leK ltK at *;omega
theorem leK_of_lt {a b:RX}(h:ltK a.r b.r):leK a b:=by unfold leK ltK at *;omega
def SortK (L:List RX):Prop:=L.Pairwise leK
structure Inn (L0:List RX) (n i j:Nat) (S:List RX) (x:RX) (Q:List RX):Prop where
 perm:(S.take j++x::S.drop j++Q).Perm L0
 len:S.length=i
 ji:j≤i
 tot:i+1+Q.length=n
 sor:SortK S
 big:∀y∈S.drop j,ltK x.r y.r
theorem Inn.start {L0 L:List RX}{n i:Nat}(hp:L.Perm L0)(hn:L.length=n)(hi:i<n)(hs:SortK (L.take i)):Inn L0 n i i (L.take i) (L[i]'(by omega)) (L.drop (i+1))∧L=(L.take i).take i++(L[i]'(by omega))::(L.take i).drop i++L.drop (i+1):=by
 have e:L=(L.take i).take i++(L[i]'(by omega))::(L.take i).drop i++L.drop (i+1):=by
  rw[List.take_take,Nat.min_self,List.drop_eq_nil_of_le (by rw[List.length_take];omega)]
  rw[List.append_assoc,List.singleton_append,List.getElem_cons_drop,List.take_append_drop]
 exact⟨⟨by rw[←e];exact hp,by simp;omega,Nat.le_refl _,by simp;omega,hs,fun y hy=>by rw[List.drop_eq_nil_of_le (by rw[List.length_take];omega)] at hy;cases hy⟩,e⟩
theorem Inn.step {L0 S Q:List RX}{n i k:Nat}{x:RX}(h:Inn L0 n i (k+1) S x Q)(hlt:ltK x.r (S[k]'(by have:=h.ji;have:=h.len;omega)).r):Inn L0 n i k S x Q:=by
 have hk:k<S.length:=by have:=h.ji;have:=h.len;omega
 have e1:S.take (k+1)=S.take k++[S[k]]:=by rw[List.take_succ_eq_append_getElem hk]
 have e2:S.drop k=S[k]::S.drop (k+1):=(List.drop_eq_getElem_cons hk);refine⟨?_,h.len,by have:=h.ji;omega,h.tot,h.sor,fun y hy=>?_⟩
 ·refine List.Perm.trans ?_ h.perm
  rw[e1,e2];simp only[List.append_assoc,List.cons_append,List.nil_append,List.singleton_append]
  exact List.Perm.append_left _ (List.Perm.swap _ _ _)
 ·rw[e2] at hy
  rcases List.mem_cons.1 hy with rfl|hy
  ·exact hlt
  ·exact h.big y hy
theorem Inn.done {L0 S Q:List RX}{n i j:Nat}{x:RX}(h:Inn L0 n i j S x Q)(hj:j=0∨∃k,∃hk:k<S.length,j=k+1∧¬ltK x.r (S[k]).r):SortK ((S.take j++x::S.drop j++Q).take (i+1)):=by
 have hl:(S.take j++x::S.drop j).length=i+1:=by
  have:=h.ji;have:=h.len
  simp only[List.length_append,List.length_take,List.length_cons,List.length_drop]
  omega
 rw[List.take_left' hl];unfold SortK;have hs:=h.sor;unfold SortK at hs;rw[←List.take_append_drop j S,List.pairwise_append] at hs;rw[List.pairwise_append,List.pairwise_cons];refine⟨hs.1,⟨fun y hy=>leK_of_lt (h.big y hy),hs.2.1⟩,fun y hy z hz=>?_⟩
 rcases List.mem_cons.1 hz with rfl|hz
 ·rcases hj with rfl|⟨k,hk,rfl,hnl⟩
  ·simp at hy
  ·have e1:S.take (k+1)=S.take k++[S[k]]:=by rw[List.take_succ_eq_append_getElem hk]
   have hs1:=hs.1;rw[e1,List.pairwise_append] at hs1;rw[e1] at hy;rcases List.mem_append.1 hy with hy|hy
   ·exact leK_trans (hs1.2.2 y hy _ (List.mem_singleton.2 rfl)) hnl
   ·rw[List.mem_singleton.1 hy]
    exact hnl
 ·exact hs.2.2 y hy z hz
theorem isort_any (L0:List RX)(tl:List Value)(g n c:Nat)(w:World)(hB:Blk w g 28 (rxsC L0++tl))(hL:∀x∈L0,(rxC x).length=22)(hn:L0.length=n)(hn9:n≤1000000000) :
  Calls Tryz.prog 150 #[.slice (some ⟨g,0,none⟩) n c,.int .i64 0,.int .i64 (n:Int),.func (.func 88) #[] #[]] w fun e w'=>e=.returned (.tuple #[])∧∃L',L'.Perm L0∧SortK L'∧Blk w' g 28 (rxsC L'++tl)∧Kept (fun b=>b=g) w w':=by
 have HB:=hid hB;have HL:=hid hL;have HN:=hid hn;clear hB hL hn;have HCMP:Hid (∀(a b:RX) (W:World),(rxC a).length=22→(rxC b).length=22→Calls Tryz.prog 88 #[.agg (rxC a).toArray,.agg (rxC b).toArray] W fun e w'=>e=.returned (.int .i64 (kcmp a.r b.r))∧Ext W w'):=hid (fun a b W ha hb=>cmpR_any a b W ha hb)
 go_enter Tryz.func150,Tryz.ntmps150
 go_wp2_with fail
 go_loopw [8,9] (fun s8 _ wr=>∃(i:Nat) (L:List RX),s8=.int .i64 (i:Int)∧1≤i∧i≤n+1∧L.Perm L0∧SortK (L.take i)∧Blk wr g 28 (rxsC L++tl)∧Kept (fun b=>b=g) w wr) (fun s8 _ _=>n+1-(intOf s8).toNat)
 case atStart=>exact⟨1,L0,rfl,by omega,by omega,List.Perm.refl _,by
  unfold SortK
  cases L0 with
  | nil=>exact List.Pairwise.nil
  | cons x r=>simp,HB.out,Kept.refl _ _⟩
 case round =>
  obtain⟨i,L,rfl,hi1,hi2,hp,hs,hb,hk⟩:=hrel;have HP:=hid hp;have HSO:=hid hs;have HBL:=hid hb;have HK:=hid hk;clear hp hs hb hk;obtain⟨wo,rfl⟩:∃x:World,x=wr:=⟨_,rfl⟩
  have hLn:L.length=n:=HP.out.length_eq.trans HN.out;by_cases hin:i<n
  ·have HST:=hid (Inn.start HP.out hLn hin HSO.out)
   obtain⟨x,hx⟩:∃x,x=L[i]'(by omega):=⟨_,rfl⟩
   rw[←hx] at HST;obtain⟨S,hS⟩:∃S,S=L.take i:=⟨_,rfl⟩
   obtain⟨Q,hQ⟩:∃Q,Q=L.drop (i+1):=⟨_,rfl⟩
   rw[←hS,←hQ] at HST;have HBL2:Hid (Blk wo g 28 (rxsC (S.take i++x::S.drop i++Q)++tl)):=hid (by rw[←HST.out.2];exact HBL.out)
   have HIN:=hid HST.out.1;have hlt:decide ((i:Int)<(n:Int))=true:=decide_eq_true (by omega)
   clear hx hS hQ hLn HBL HST HSO HP;go_wp2_with fail
   go_loopw [9] (fun s9 wr=>∃(j:Nat),s9=.int .i64 (j:Int)∧Inn L0 n i j S x Q∧Blk wr g 28 (rxsC (S.take j++x::S.drop j++Q)++tl)∧Kept (fun b=>b=g) w wr) (fun s9 _=>(intOf s9).toNat)
   case atStart=>exact⟨i,rfl,HIN.out,HBL2.out,HK.out⟩
   case round =>
    obtain⟨j,rfl,hI,hb,hk⟩:=hrel;clear HIN HBL2 HK;have HIN:=hid hI;have HBJ:=hid hb;have HKJ:=hid hk;clear hI hb hk;obtain⟨wi,rfl⟩:∃x:World,x=wr:=⟨_,rfl⟩
    by_cases hj0:j=0
    ·subst hj0
     have HSD:=hid (HIN.out.done (Or.inl rfl));have hgt:decide ((0:Int)<((0:Nat):Int))=false:=by decide
     go_upto_region 4 with fail
     refine wp_region_flowG 17 ?FW0 (fun us=>?_) (by kernel_rfl) (by kernel_rfl) (fun a b=>Ext a b) Ext.refl (fun h1 h2=>h1.next h2) (fun i v W=>match i with
      | 0=>v=.int .i64 ((0:Nat):Int)
      | 1=>v=.int .i64 0
      | 2=>v=.bool false
      | 3=>v=.bool false
      | 4=>v=undef
      | 5=>v=undef
      | 6=>v=undef
      | 7=>v=undef
      | 8=>v=undef
      | 9=>v=undef
      | 10=>v=undef
      | 11=>v=undef
      | 12=>v=undef
      | 13=>v=undef
      | 14=>v=undef
      | 15=>v=undef
      | 16=>v=.bool false
      | _=>True) ?_ ?_
     case refine_1 =>
      simp only[List.take_succ_cons,List.take_zero,flowAct,Nat.zero_add,Nat.reduceAdd,Act.put,List.setIfInBounds_toArray,List.set_cons_succ,List.set_cons_zero]
      rfl
     ·simp only[List.take_succ_cons,List.take_zero,flowStepsG]
      refine⟨?_,?_,?_,?_,?_,?_,?_,?_,?_,?_,?_,?_,?_,?_,?_,?_,?_,trivial⟩
      ·intro us W K HE hd HK
       dsimp only at HK⊢;clear hd;go_wp2_with fail
       exact K_at (Kz HK) (by kernel_rfl)
      ·intro us W K HE hd HK
       dsimp only at HK⊢;clear hd;go_wp2_with fail
       exact K_at (Kz HK) (by kernel_rfl)
      ·intro us W K HE hd HK
       have d0:=hd 0 (by kernel_rfl)
       have d1:=hd 1 (by kernel_rfl)
       dsimp only at HK⊢;rw[d0,d1] at HK⊢;clear hd d0 d1;go_wp2_with fail
       exact K_at (Kz HK) (by kernel_rfl)
      ·intro us W K HE hd HK
       have d2:=hd 2 (by kernel_rfl)
       dsimp only at HK⊢;rw[d2] at HK⊢;clear hd d2;go_wp2_with fail
       exact K_at (Kz HK) (by kernel_rfl)
      ·intro us W K HE hd HK
       have d3:=hd 3 (by kernel_rfl)
       dsimp only at HK⊢;rw[d3] at HK⊢;clear hd d3;go_wp2_with fail
       exact K_at (Kz HK) (by kernel_rfl)
      ·intro us W K HE hd HK
       have d3:=hd 3 (by kernel_rfl)
       dsimp only at HK⊢;rw[d3] at HK⊢;clear hd d3;go_wp2_with fail
       exact K_at (Kz HK) (by kernel_rfl)
      ·intro us W K HE hd HK
       have d3:=hd 3 (by kernel_rfl)
       dsimp only at HK⊢;rw[d3] at HK⊢;clear hd d3;go_wp2_with fail
       exact K_at (Kz HK) (by kernel_rfl)
      ·intro us W K HE hd HK
       have d3:=hd 3 (by kernel_rfl)
       have d5:=hd 5 (by kernel_rfl)
       have d6:=hd 6 (by kernel_rfl)
       dsimp only at HK⊢;rw[d3,d5,d6] at HK⊢;clear hd d3 d5 d6;go_wp2_with fail
       exact K_at (Kz HK) (by kernel_rfl)
      ·intro us W K HE hd HK
       have d3:=hd 3 (by kernel_rfl)
       have d7:=hd 7 (by kernel_rfl)
       dsimp only at HK⊢;rw[d3,d7] at HK⊢;clear hd d3 d7;go_wp2_with fail
       exact K_at (Kz HK) (by kernel_rfl)
      ·intro us W K HE hd HK
       have d3:=hd 3 (by kernel_rfl)
       dsimp only at HK⊢;rw[d3] at HK⊢;clear hd d3;go_wp2_with fail
       exact K_at (Kz HK) (by kernel_rfl)
      ·intro us W K HE hd HK
       have d3:=hd 3 (by kernel_rfl)
       dsimp only at HK⊢;rw[d3] at HK⊢;clear hd d3;go_wp2_with fail
       exact K_at (Kz HK) (by kernel_rfl)
      ·intro us W K HE hd HK
       have d3:=hd 3 (by kernel_rfl)
       have d10:=hd 10 (by kernel_rfl)
       dsimp only at HK⊢;rw[d3,d10] at HK⊢;clear hd d3 d10;go_wp2_with fail
       exact K_at (Kz HK) (by kernel_rfl)
      ·intro us W K HE hd HK
       have d3:=hd 3 (by kernel_rfl)
       have d9:=hd 9 (by kernel_rfl)
       have d11:=hd 11 (by kernel_rfl)
       dsimp only at HK⊢;rw[d3,d9,d11] at HK⊢;clear hd d3 d9 d11;go_wp2_with fail
       exact K_at (Kz HK) (by kernel_rfl)
      ·intro us W K HE hd HK
       have d3:=hd 3 (by kernel_rfl)
       have d12:=hd 12 (by kernel_rfl)
       dsimp only at HK⊢;rw[d3,d12] at HK⊢;clear hd d3 d12;go_wp2_with fail
       exact K_at (Kz HK) (by kernel_rfl)
      ·intro us W K HE hd HK
       have d3:=hd 3 (by kernel_rfl)
       have d4:=hd 4 (by kernel_rfl)
       have d8:=hd 8 (by kernel_rfl)
       have d13:=hd 13 (by kernel_rfl)
       dsimp only at HK⊢;rw[d3,d4,d8,d13] at HK⊢;clear hd d3 d4 d8 d13;go_wp2_with fail
       exact K_at (Kz HK) (by kernel_rfl)
      ·intro us W K HE hd HK
       have d3:=hd 3 (by kernel_rfl)
       have d14:=hd 14 (by kernel_rfl)
       dsimp only at HK⊢;rw[d3,d14] at HK⊢;clear hd d3 d14;go_wp2_with fail
       exact K_at (Kz HK) (by kernel_rfl)
      ·intro us W K HE hd HK
       have d3:=hd 3 (by kernel_rfl)
       have d15:=hd 15 (by kernel_rfl)
       dsimp only at HK⊢;rw[d3,d15] at HK⊢;clear hd d3 d15;go_wp2_with fail
       exact K_at (Kz HK) (by kernel_rfl)
     ·intro us W hE hd
      try dsimp only
      have d16:=hd 16 (by decide)
      simp only[List.drop_succ_cons,List.drop_zero]
      rw[d16];have EW:=hid (sg_undrew hE);have BW:=hid (HBJ.out.ext EW.out);have KW:=hid (HKJ.out.trans (Kept.of_ext EW.out));clear hd hE d16;go_wp2_with fail
      exact⟨⟨i+1,S.take 0++x::S.drop 0++Q,by go_num,by omega,by omega,HIN.out.perm,HSD.out,BW.out,KW.out⟩,by simp [intOf];omega⟩
    ·obtain⟨k,hk⟩:∃k,j=k+1:=⟨j-1,by omega⟩
     subst hk;have hkS:k<S.length:=by have h1:=HIN.out.ji;have h2:=HIN.out.len;omega
     obtain⟨y,hy⟩:∃y,y=S[k]:=⟨_,rfl⟩
     have hin2:k+1≤i:=HIN.out.ji;have e1:S.take (k+1)=S.take k++[y]:=by rw[hy,List.take_succ_eq_append_getElem hkS]
     have e2:S.drop k=y::S.drop (k+1):=by rw[hy];exact List.drop_eq_getElem_cons hkS
     have HE1:Hid (S.take (k+1)++x::S.drop (k+1)++Q=S.take k++y::x::(S.drop (k+1)++Q)):=hid (by rw[e1];simp)
     have HE2:Hid (S.take k++x::S.drop k++Q=S.take k++x::y::(S.drop (k+1)++Q)):=hid (by rw[e2];simp)
     have HALL:Hid (∀z∈S.take k++y::x::(S.drop (k+1)++Q),(rxC z).length=22):=hid (fun z hz=>HL.out z (HIN.out.perm.mem_iff.1 (by rw[HE1.out];exact hz)))
     have HX22:=hid (HALL.out x (by simp))
     have HY22:=hid (HALL.out y (by simp))
     have HP22:Hid (∀z∈S.take k,(rxC z).length=22):=hid (fun z hz=>HALL.out z (List.mem_append_left _ hz))
     have HPL:Hid ((S.take k).length=k):=hid (by simp;omega)
     have HBJ2:Hid (Blk wi g 28 (rxsC (S.take k++y::x::(S.drop (k+1)++Q))++tl)):=hid (by rw[←HE1.out];exact HBJ.out)
     have HRX:Hid (∀W,Ext wi W→W.rangeAt g ((k+1)*22) (rxC x)):=hid (fun W hW u v hv=>by
      have hu:u<22:=by have:=(List.getElem?_eq_some_iff.1 hv).1;rw[HX22.out] at this;exact this
      refine ((HBJ2.out.ext hW).cell _).trans ?_
      rw[List.getElem?_append_left (by rw[rxsC_len _ HALL.out];simp;omega)]
      exact (flatK_at rxC 22 _ HALL.out (k+1) x (by rw[List.getElem?_append_right (by rw[HPL.out];omega),HPL.out];simp) u hu).trans hv)
     have HRY:Hid (∀W,Ext wi W→W.rangeAt g (k*22) (rxC y)):=hid (fun W hW u v hv=>by
      have hu:u<22:=by have:=(List.getElem?_eq_some_iff.1 hv).1;rw[HY22.out] at this;exact this
      refine ((HBJ2.out.ext hW).cell _).trans ?_
      rw[List.getElem?_append_left (by rw[rxsC_len _ HALL.out];simp;omega)]
      exact (flatK_at rxC 22 _ HALL.out k y (by rw[List.getElem?_append_right (by rw[HPL.out];omega),HPL.out];simp) u hu).trans hv)
     obtain⟨vc,hv⟩:∃v,v=kcmp x.r y.r:=⟨_,rfl⟩
     have HLT:Hid (vc<0→ltK x.r y.r):=hid (fun h=>(kcmp_lt _ _).1 (by rw[←hv];exact h))
     have HGE:Hid (¬vc<0→¬ltK x.r y.r):=hid (fun h h2=>h (by rw[hv];exact (kcmp_lt _ _).2 h2))
     have HCX:Hid (∀W,Calls Tryz.prog 88 #[.agg (rxC x).toArray,.agg (rxC y).toArray] W fun e w'=>e=.returned (.int .i64 vc)∧Ext W w'):=hid (fun W=>by rw[hv];exact HCMP.out x y W HX22.out HY22.out)
     have HSTEP:Hid (vc<0→Inn L0 n i k S x Q):=hid (fun h=>HIN.out.step (by rw[←hy];exact HLT.out h))
     have HSD:Hid (¬vc<0→SortK ((S.take (k+1)++x::S.drop (k+1)++Q).take (i+1))):=hid (fun h=>HIN.out.done (Or.inr ⟨k,hkS,rfl,by rw[←hy];exact HGE.out h⟩))
     have HLEN:Hid ((k+1)*22+22≤(rxsC (S.take k++y::x::(S.drop (k+1)++Q))++tl).length):=hid (by rw[List.length_append,rxsC_len _ HALL.out];simp;omega)
     have hgt:decide ((0:Int)<((k+1:Nat):Int))=true:=decide_eq_true (by omega)
     have hjn:k+1≤i∧i<n:=⟨hin2,hin⟩;have hun:(((k+1:Nat):Int)-1).toNat=k:=by omega
     have HKN:Hid (k+1<n):=hid (by omega)
     clear hv hy e1 e2 hkS hin2;obtain⟨j,hj⟩:∃j,j=k+1:=⟨_,rfl⟩
     have HJ:=hid hj;rw[←hj] at HRX hgt hjn hun HKN hj0⊢;have HTZ:Hid (decide (0<j)=true):=hid (decide_eq_true (by omega))
     have hjk:(j:Int)-1=(k:Int):=by omega
     clear hj;go_upto_region 4 with fail
     refine wp_region_flowG 17 ?FW1 (fun us=>?_) (by kernel_rfl) (by kernel_rfl) (fun a b=>Ext a b) Ext.refl (fun h1 h2=>h1.next h2) (fun i v W=>match i with
      | 0=>v=.int .i64 (j:Int)
      | 1=>v=.int .i64 0
      | 2=>v=.bool true
      | 3=>v=.bool true
      | 4=>v=.func (.func 88) #[] #[]
      | 5=>v=.slice (some ⟨g,0,none⟩) n c
      | 6=>v=.int .i64 (j:Int)
      | 7=>v=.pointer (some ⟨g,j*22,none⟩)
      | 8=>v=.agg (rxC x).toArray
      | 9=>v=.slice (some ⟨g,0,none⟩) n c
      | 10=>v=.int .i64 (j:Int)
      | 11=>v=.int .i64 (k:Int)
      | 12=>v=.pointer (some ⟨g,k*22,none⟩)
      | 13=>v=.agg (rxC y).toArray
      | 14=>v=.int .i64 vc
      | 15=>v=.bool (decide (vc<0))
      | 16=>v=.bool (decide (vc<0))
      | _=>True) ?_ ?_
     case refine_1 =>
      simp only[List.take_succ_cons,List.take_zero,flowAct,Nat.zero_add,Nat.reduceAdd,Act.put,List.setIfInBounds_toArray,List.set_cons_succ,List.set_cons_zero]
      rfl
     ·simp only[List.take_succ_cons,List.take_zero,flowStepsG]
      refine⟨?_,?_,?_,?_,?_,?_,?_,?_,?_,?_,?_,?_,?_,?_,?_,?_,?_,trivial⟩
      ·intro us W K HE hd HK
       dsimp only at HK⊢;clear hd;go_wp2_with fail
       exact K_at (Kz HK) (by kernel_rfl)
      ·intro us W K HE hd HK
       dsimp only at HK⊢;clear hd;go_wp2_with fail
       exact K_at (Kz HK) (by kernel_rfl)
      ·intro us W K HE hd HK
       have d0:=hd 0 (by kernel_rfl)
       have d1:=hd 1 (by kernel_rfl)
       dsimp only at HK⊢;rw[d0,d1] at HK⊢;clear hd d0 d1;go_wp2_with fail
       exact K_at (HK.out (.bool (decide (0<j))) W (fun _ _=>by rw[HTZ.out]) (Ext.refl W)) (by kernel_rfl)
      ·intro us W K HE hd HK
       have d2:=hd 2 (by kernel_rfl)
       dsimp only at HK⊢;rw[d2] at HK⊢;clear hd d2;go_wp2_with fail
       exact K_at (Kz HK) (by kernel_rfl)
      ·intro us W K HE hd HK
       have d3:=hd 3 (by kernel_rfl)
       dsimp only at HK⊢;rw[d3] at HK⊢;clear hd d3;go_wp2_with fail
       exact K_at (Kz HK) (by kernel_rfl)
      ·intro us W K HE hd HK
       have d3:=hd 3 (by kernel_rfl)
       dsimp only at HK⊢;rw[d3] at HK⊢;clear hd d3;go_wp2_with fail
       exact K_at (Kz HK) (by kernel_rfl)
      ·intro us W K HE hd HK
       have d3:=hd 3 (by kernel_rfl)
       dsimp only at HK⊢;rw[d3] at HK⊢;clear hd d3;go_wp2_with fail
       exact K_at (Kz HK) (by kernel_rfl)
      ·intro us W K HE hd HK
       have d3:=hd 3 (by kernel_rfl)
       have d5:=hd 5 (by kernel_rfl)
       have d6:=hd 6 (by kernel_rfl)
       dsimp only at HK⊢;rw[d3,d5,d6] at HK⊢;clear hd d3 d5 d6;go_wp2_with fail
       exact K_at (Kz HK) (by kernel_rfl)
      ·intro us W K HE hd HK
       have d3:=hd 3 (by kernel_rfl)
       have d7:=hd 7 (by kernel_rfl)
       have HRW:=hid (HRX.out W (sg_undrew HE.out));dsimp only at HK⊢;rw[d3,d7] at HK⊢;clear hd d3 d7;go_wp2_with ((refine wpList_midw (by rfl) 28 (.tmp 25) rfl g (j*22) (by kernel_rfl) (rxC x) HRW.out Tryz.underlying28 rfl (info_rev.trans (congrArg some HX22.out.symm)) ?_))
       exact K_at (Kz HK) (by kernel_rfl)
      ·intro us W K HE hd HK
       have d3:=hd 3 (by kernel_rfl)
       dsimp only at HK⊢;rw[d3] at HK⊢;clear hd d3;go_wp2_with fail
       exact K_at (Kz HK) (by kernel_rfl)
      ·intro us W K HE hd HK
       have d3:=hd 3 (by kernel_rfl)
       dsimp only at HK⊢;rw[d3] at HK⊢;clear hd d3;go_wp2_with fail
       exact K_at (Kz HK) (by kernel_rfl)
      ·intro us W K HE hd HK
       have d3:=hd 3 (by kernel_rfl)
       have d10:=hd 10 (by kernel_rfl)
       dsimp only at HK⊢;rw[d3,d10] at HK⊢;clear hd d3 d10;go_wp2_with fail
       exact K_at (Kz HK) (by kernel_rfl)
      ·intro us W K HE hd HK
       have d3:=hd 3 (by kernel_rfl)
       have d9:=hd 9 (by kernel_rfl)
       have d11:=hd 11 (by kernel_rfl)
       dsimp only at HK⊢;rw[d3,d9,d11] at HK⊢;clear hd d3 d9 d11;go_wp2_with fail
       exact K_at (Kz HK) (by kernel_rfl)
      ·intro us W K HE hd HK
       have d3:=hd 3 (by kernel_rfl)
       have d12:=hd 12 (by kernel_rfl)
       have HRW:=hid (HRY.out W (sg_undrew HE.out));dsimp only at HK⊢;rw[d3,d12] at HK⊢;clear hd d3 d12;go_wp2_with ((refine wpList_midw (by rfl) 28 (.tmp 30) rfl g (k*22) (by kernel_rfl) (rxC y) HRW.out Tryz.underlying28 rfl (info_rev.trans (congrArg some HY22.out.symm)) ?_))
       exact K_at (Kz HK) (by kernel_rfl)
      ·intro us W K HE hd HK
       have d3:=hd 3 (by kernel_rfl)
       have d4:=hd 4 (by kernel_rfl)
       have d8:=hd 8 (by kernel_rfl)
       have d13:=hd 13 (by kernel_rfl)
       dsimp only at HK⊢;rw[d3,d4,d8,d13] at HK⊢;clear hd d3 d4 d8 d13;go_wp2_with ((go_at_call 88;(with_reducible refine (HCX.out W).mono ?_);rintro e w7 ⟨rfl,hB7⟩))
       exact K_at (HK.out (.int .i64 vc) w7 (fun _ _=>rfl) hB7) (by kernel_rfl)
      ·intro us W K HE hd HK
       have d3:=hd 3 (by kernel_rfl)
       have d14:=hd 14 (by kernel_rfl)
       dsimp only at HK⊢;rw[d3,d14] at HK⊢;clear hd d3 d14;go_wp2_with fail
       exact K_at (Kz HK) (by kernel_rfl)
      ·intro us W K HE hd HK
       have d3:=hd 3 (by kernel_rfl)
       have d15:=hd 15 (by kernel_rfl)
       dsimp only at HK⊢;rw[d3,d15] at HK⊢;clear hd d3 d15;go_wp2_with fail
       exact K_at (Kz HK) (by kernel_rfl)
     ·intro us W hE hd
      try dsimp only
      have d16:=hd 16 (by decide)
      simp only[List.drop_succ_cons,List.drop_zero]
      rw[d16];have EW:=hid (sg_undrew hE);have BW:=hid (HBJ.out.ext EW.out);have BW2:=hid (HBJ2.out.ext EW.out);have KW:=hid (HKJ.out.trans (Kept.of_ext EW.out));clear hd hE d16;by_cases hv0:vc<0
      ·have hI:=hid (HSTEP.out hv0)
       rw[decide_eq_true hv0];clear hv0;obtain⟨ws,rfl⟩:∃x:World,x=W:=⟨_,rfl⟩
       have EWS:=EW;go_upto_region 6 with fail
       refine wp_region_flowV 17 15 _ (fun i=>i==0||i==1||i==2||i==3||i==4||i==5||i==6||i==7||i==8||i==9||i==10||i==11||i==12||i==13||i==14) (fun i=>i==16) ?FV (fun us=>?_) (by kernel_rfl) (by kernel_rfl) (by kernel_rfl) rfl (fun _ _=>True) (fun a b=>Ext a b) Ext.refl (fun _=>trivial) (fun _ _=>trivial) (fun h1 h2=>h1.next h2) (fun i v W=>match i with
        | 0=>v=.slice (some ⟨g,0,none⟩) n c
        | 1=>v=.int .i64 (j:Int)
        | 2=>v=.slice (some ⟨g,0,none⟩) n c
        | 3=>v=.int .i64 (j:Int)
        | 4=>v=.int .i64 (k:Int)
        | 5=>v=.slice (some ⟨g,0,none⟩) n c
        | 6=>v=.int .i64 (j:Int)
        | 7=>v=.int .i64 (k:Int)
        | 8=>v=.pointer (some ⟨g,k*22,none⟩)
        | 9=>v=.agg (rxC y).toArray
        | 10=>v=.slice (some ⟨g,0,none⟩) n c
        | 11=>v=.int .i64 (j:Int)
        | 12=>v=.pointer (some ⟨g,j*22,none⟩)
        | 13=>v=.agg (rxC x).toArray
        | 14=>v=.pointer (some ⟨g,j*22,none⟩)
        | 15=>Blk W g 28 (putR (rxsC (S.take k++y::x::(S.drop (k+1)++Q))++tl) (j*22) (rxC y))∧Kept (fun b=>b=g) ws W
        | 16=>v=.pointer (some ⟨g,k*22,none⟩)
        | _=>True) ?_ ?_
       case refine_1 =>
        simp only[List.take_succ_cons,List.take_zero,flowAct,Nat.zero_add,Nat.reduceAdd,Act.put,List.setIfInBounds_toArray,List.set_cons_succ,List.set_cons_zero]
        rfl
       ·simp only[List.take_succ_cons,List.take_zero,flowStepsV]
        refine⟨?_,?_,?_,?_,?_,?_,?_,?_,?_,?_,?_,?_,?_,?_,?_,?_,?_,trivial⟩
        ·intro us W K hE1 hE2 hd hK
         simp only[Nat.reduceBEq,Bool.not_true,Bool.not_false,Bool.or_true,Bool.or_false,Bool.true_or,Bool.false_or,cond_true,cond_false] at hK⊢
         have HK:=hid hK;have HE1:=hid hE1;clear hK hd hE1 hE2;go_wp2_with fail
         exact K_at (HK.out (.slice (some ⟨g,0,none⟩) n c) W (fun _ _=>rfl) (Ext.refl W)) (by kernel_rfl)
        ·intro us W K hE1 hE2 hd hK
         simp only[Nat.reduceBEq,Bool.not_true,Bool.not_false,Bool.or_true,Bool.or_false,Bool.true_or,Bool.false_or,cond_true,cond_false] at hK⊢
         have HK:=hid hK;have HE1:=hid hE1;clear hK hd hE1 hE2;go_wp2_with fail
         exact K_at (HK.out (.int .i64 (j:Int)) W (fun _ _=>rfl) (Ext.refl W)) (by kernel_rfl)
        ·intro us W K hE1 hE2 hd hK
         simp only[Nat.reduceBEq,Bool.not_true,Bool.not_false,Bool.or_true,Bool.or_false,Bool.true_or,Bool.false_or,cond_true,cond_false] at hK⊢
         have HK:=hid hK;have HE1:=hid hE1;clear hK hd hE1 hE2;go_wp2_with fail
         exact K_at (HK.out (.slice (some ⟨g,0,none⟩) n c) W (fun _ _=>rfl) (Ext.refl W)) (by kernel_rfl)
        ·intro us W K hE1 hE2 hd hK
         simp only[Nat.reduceBEq,Bool.not_true,Bool.not_false,Bool.or_true,Bool.or_false,Bool.true_or,Bool.false_or,cond_true,cond_false] at hK⊢
         have HK:=hid hK;have HE1:=hid hE1;clear hK hd hE1 hE2;go_wp2_with fail
         exact K_at (HK.out (.int .i64 (j:Int)) W (fun _ _=>rfl) (Ext.refl W)) (by kernel_rfl)
        ·intro us W K hE1 hE2 hd hK
         have d3:=hd 3 (by kernel_rfl) (by kernel_rfl)
         simp only[Nat.reduceBEq,Bool.not_true,Bool.not_false,Bool.or_true,Bool.or_false,Bool.true_or,Bool.false_or,cond_true,cond_false] at hK⊢
         rw[d3] at hK⊢;have HK:=hid hK;have HE1:=hid hE1;clear hK hd hE1 hE2 d3;go_wp2_with fail
         exact K_at (HK.out (.int .i64 (k:Int)) W (fun _ _=>rfl) (Ext.refl W)) (by kernel_rfl)
        ·intro us W K hE1 hE2 hd hK
         simp only[Nat.reduceBEq,Bool.not_true,Bool.not_false,Bool.or_true,Bool.or_false,Bool.true_or,Bool.false_or,cond_true,cond_false] at hK⊢
         have HK:=hid hK;have HE1:=hid hE1;clear hK hd hE1 hE2;go_wp2_with fail
         exact K_at (HK.out (.slice (some ⟨g,0,none⟩) n c) W (fun _ _=>rfl) (Ext.refl W)) (by kernel_rfl)
        ·intro us W K hE1 hE2 hd hK
         simp only[Nat.reduceBEq,Bool.not_true,Bool.not_false,Bool.or_true,Bool.or_false,Bool.true_or,Bool.false_or,cond_true,cond_false] at hK⊢
         have HK:=hid hK;have HE1:=hid hE1;clear hK hd hE1 hE2;go_wp2_with fail
         exact K_at (HK.out (.int .i64 (j:Int)) W (fun _ _=>rfl) (Ext.refl W)) (by kernel_rfl)
        ·intro us W K hE1 hE2 hd hK
         have d6:=hd 6 (by kernel_rfl) (by kernel_rfl)
         simp only[Nat.reduceBEq,Bool.not_true,Bool.not_false,Bool.or_true,Bool.or_false,Bool.true_or,Bool.false_or,cond_true,cond_false] at hK⊢
         rw[d6] at hK⊢;have HK:=hid hK;have HE1:=hid hE1;clear hK hd hE1 hE2 d6;go_wp2_with fail
         exact K_at (HK.out (.int .i64 (k:Int)) W (fun _ _=>rfl) (Ext.refl W)) (by kernel_rfl)
        ·intro us W K hE1 hE2 hd hK
         have d5:=hd 5 (by kernel_rfl) (by kernel_rfl)
         have d7:=hd 7 (by kernel_rfl) (by kernel_rfl)
         simp only[Nat.reduceBEq,Bool.not_true,Bool.not_false,Bool.or_true,Bool.or_false,Bool.true_or,Bool.false_or,cond_true,cond_false] at hK⊢
         rw[d5,d7] at hK⊢;have HK:=hid hK;have HE1:=hid hE1;clear hK hd hE1 hE2 d5 d7;go_wp2_with fail
         exact K_at (HK.out (.pointer (some ⟨g,k*22,none⟩)) W (fun _ _=>rfl) (Ext.refl W)) (by kernel_rfl)
        ·intro us W K hE1 hE2 hd hK
         have hE:=hE2 (by kernel_rfl)
         have d8:=hd 8 (by kernel_rfl) (by kernel_rfl)
         have HRW:=hid (HRY.out W (EWS.out.next (sg_undrew hE)));simp only[Nat.reduceBEq,Bool.not_true,Bool.not_false,Bool.or_true,Bool.or_false,Bool.true_or,Bool.false_or,cond_true,cond_false] at hK⊢
         rw[d8] at hK⊢;have HK:=hid hK;have HE1:=hid hE1;have HE:=hid hE;clear hE;clear hK hd hE1 hE2 d8;go_wp2_with ((refine wpList_midw (by rfl) 28 (.tmp 45) rfl g (k*22) (by kernel_rfl) (rxC y) HRW.out Tryz.underlying28 rfl (info_rev.trans (congrArg some HY22.out.symm)) ?_))
         exact K_at (HK.out (.agg (rxC y).toArray) W (fun _ _=>rfl) (Ext.refl W)) (by kernel_rfl)
        ·intro us W K hE1 hE2 hd hK
         simp only[Nat.reduceBEq,Bool.not_true,Bool.not_false,Bool.or_true,Bool.or_false,Bool.true_or,Bool.false_or,cond_true,cond_false] at hK⊢
         have HK:=hid hK;have HE1:=hid hE1;clear hK hd hE1 hE2;go_wp2_with fail
         exact K_at (HK.out (.slice (some ⟨g,0,none⟩) n c) W (fun _ _=>rfl) (Ext.refl W)) (by kernel_rfl)
        ·intro us W K hE1 hE2 hd hK
         simp only[Nat.reduceBEq,Bool.not_true,Bool.not_false,Bool.or_true,Bool.or_false,Bool.true_or,Bool.false_or,cond_true,cond_false] at hK⊢
         have HK:=hid hK;have HE1:=hid hE1;clear hK hd hE1 hE2;go_wp2_with fail
         exact K_at (HK.out (.int .i64 (j:Int)) W (fun _ _=>rfl) (Ext.refl W)) (by kernel_rfl)
        ·intro us W K hE1 hE2 hd hK
         have d10:=hd 10 (by kernel_rfl) (by kernel_rfl)
         have d11:=hd 11 (by kernel_rfl) (by kernel_rfl)
         simp only[Nat.reduceBEq,Bool.not_true,Bool.not_false,Bool.or_true,Bool.or_false,Bool.true_or,Bool.false_or,cond_true,cond_false] at hK⊢
         rw[d10,d11] at hK⊢;have HK:=hid hK;have HE1:=hid hE1;clear hK hd hE1 hE2 d10 d11;go_wp2_with fail
         exact K_at (HK.out (.pointer (some ⟨g,j*22,none⟩)) W (fun _ _=>rfl) (Ext.refl W)) (by kernel_rfl)
        ·intro us W K hE1 hE2 hd hK
         have hE:=hE2 (by kernel_rfl)
         have d12:=hd 12 (by kernel_rfl) (by kernel_rfl)
         have HRW:=hid (HRX.out W (EWS.out.next (sg_undrew hE)));simp only[Nat.reduceBEq,Bool.not_true,Bool.not_false,Bool.or_true,Bool.or_false,Bool.true_or,Bool.false_or,cond_true,cond_false] at hK⊢
         rw[d12] at hK⊢;have HK:=hid hK;have HE1:=hid hE1;have HE:=hid hE;clear hE;clear hK hd hE1 hE2 d12;go_wp2_with ((refine wpList_midw (by rfl) 28 (.tmp 49) rfl g (j*22) (by kernel_rfl) (rxC x) HRW.out Tryz.underlying28 rfl (info_rev.trans (congrArg some HX22.out.symm)) ?_))
         exact K_at (HK.out (.agg (rxC x).toArray) W (fun _ _=>rfl) (Ext.refl W)) (by kernel_rfl)
        ·intro us W K hE1 hE2 hd hK
         have d0:=hd 0 (by kernel_rfl) (by kernel_rfl)
         have d1:=hd 1 (by kernel_rfl) (by kernel_rfl)
         simp only[Nat.reduceBEq,Bool.not_true,Bool.not_false,Bool.or_true,Bool.or_false,Bool.true_or,Bool.false_or,cond_true,cond_false] at hK⊢
         rw[d0,d1] at hK⊢;have HK:=hid hK;have HE1:=hid hE1;clear hK hd hE1 hE2 d0 d1;go_wp2_with fail
         exact K_at (HK.out (.pointer (some ⟨g,j*22,none⟩)) W (fun _ _=>rfl) (Ext.refl W)) (by kernel_rfl)
        ·intro us W K hE1 hE2 hd hK
         have hE:=hE2 (by kernel_rfl)
         have d9:=hd 9 (by kernel_rfl) (by kernel_rfl)
         have d14:=hd 14 (by kernel_rfl) (by kernel_rfl)
         have HBW:=hid (HBJ2.out.ext (EWS.out.next (sg_undrew hE)));have HEW:=hid (sg_undrew hE);simp only[Nat.reduceBEq,Bool.not_true,Bool.not_false,Bool.or_true,Bool.or_false,Bool.true_or,Bool.false_or,cond_true,cond_false] at hK⊢
         rw[d9,d14] at hK⊢;have HK:=hid hK;have HE1:=hid hE1;have HE:=hid hE;clear hE;clear hK hd hE1 hE2 d9 d14;go_wp2_with ((refine wpList_store_seg rfl 28 (.tmp 51) (.tmp 46) rfl g (j*22) (rxC y) (by kernel_rfl) (by kernel_rfl) HBW.out (info_rev.trans (congrArg some HY22.out.symm)) (by rw[HY22.out,HJ.out];exact HLEN.out) (rxC_one y) ?_;intro w7 hw7 hb7;have hk7:Kept (fun b=>b=g) ws w7:=(Kept.of_ext HEW.out).trans (by rw[hw7.out];exact Kept.setRow (F:=fun b=>b=g) _ rfl _)))
         exact K_at (HK.out undef w7 (fun W2 h2=>⟨hb7.ext h2,hk7.trans (Kept.of_ext h2)⟩) trivial) (by kernel_rfl)
        ·intro us W K hE1 hE2 hd hK
         have d2:=hd 2 (by kernel_rfl) (by kernel_rfl)
         have d4:=hd 4 (by kernel_rfl) (by kernel_rfl)
         simp only[Nat.reduceBEq,Bool.not_true,Bool.not_false,Bool.or_true,Bool.or_false,Bool.true_or,Bool.false_or,cond_true,cond_false] at hK⊢
         rw[d2,d4] at hK⊢;have HK:=hid hK;have HE1:=hid hE1;clear hK hd hE1 hE2 d2 d4;go_wp2_with fail
         exact K_at (HK.out (.pointer (some ⟨g,k*22,none⟩)) W (fun _ _=>rfl) (Ext.refl W)) (by kernel_rfl)
       ·intro us W hE1 hd
        try dsimp only
        have d16:=hd 16 (by decide) (by decide)
        have d13:=hd 13 (by decide) (by decide)
        obtain⟨hb15,hk15⟩:=hd 15 (by decide) (by decide)
        simp only[List.drop_succ_cons,List.drop_zero]
        rw[d16,d13];have HB15:=hid hb15;have HK15:=hid hk15;clear hd hE1 d16 d13 hb15 hk15;have HLEN2:Hid (k*22+22≤(putR (rxsC (S.take k++y::x::(S.drop (k+1)++Q))++tl) (j*22) (rxC y)).length):=hid (by rw[putR_len (by rw[HY22.out,HJ.out];exact HLEN.out)];have h1:=HLEN.out;have h2:=HJ.out;omega)
        go_wp2_with ((refine wpList_store_seg rfl 28 (.tmp 52) (.tmp 50) rfl g (k*22) (rxC x) (by kernel_rfl) (by kernel_rfl) HB15.out (info_rev.trans (congrArg some HX22.out.symm)) (by rw[HX22.out];exact HLEN2.out) (rxC_one x) ?_;intro w8 hw8 hb8;have HB8:=hid hb8;clear hb8))
        have hbf:Blk w8 g 28 (rxsC (S.take k++x::S.drop k++Q)++tl):=by
         have h:=HB8.out;rw[HJ.out,swap_cells (S.take k) (S.drop (k+1)++Q) y x tl k HPL.out HP22.out HY22.out HX22.out] at h;rw[HE2.out];exact h
        have hkf:Kept (fun b=>b=g) w w8:=(KW.out.trans HK15.out).trans (by rw[hw8.out];exact Kept.setRow (F:=fun b=>b=g) _ rfl _)
        exact⟨⟨k,rfl,hI.out,hbf,hkf⟩,by have:=HJ.out;simp [intOf];omega⟩
      ·have hS:=hid (HSD.out hv0)
       rw[decide_eq_false hv0];clear hv0;go_wp2_with fail
       exact⟨⟨i+1,S.take (k+1)++x::S.drop (k+1)++Q,by go_num,by omega,by omega,HIN.out.perm,hS.out,BW.out,KW.out⟩,by simp [intOf];omega⟩
  ·have hge:decide ((i:Int)<(n:Int))=false:=decide_eq_false (by omega)
   have hall:L.take i=L:=List.take_of_length_le (by omega)
   go_wp2_with fail
   go_end0
   refine⟨rfl,L,HP.out,?_,HBL.out,HK.out⟩
   have:=HSO.out
   rw[hall] at this;exact this
end
section
theorem len64_any (x:Int)(w:World)(h0:0≤x)(h1:x<256) :
  Calls Tryz.prog 159 #[.int .u64 x] w fun e w'=>(∃k,e=.returned (.int .i64 k))∧w=w':=by
 go_enter Tryz.func159,Tryz.ntmps159
 go_wp2_with fail
 go_ret
 exact⟨⟨_,rfl⟩,rfl⟩
theorem len_any (x:Int)(w:World)(h0:0≤x)(h1:x<256) :
  Calls Tryz.prog 126 #[.int .u64 x] w fun e w'=>(∃k,e=.returned (.int .i64 k))∧w=w':=by
 go_enter Tryz.func126,Tryz.ntmps126
 go_wp2_with (go_at_call 159;(with_reducible refine (len64_any x _ h0 h1).mono ?_);rintro e w2 ⟨⟨k,rfl⟩,rfl⟩)
 go_ret
 exact⟨⟨_,rfl⟩,rfl⟩
theorem pdq_any (L0:List RX)(tl:List Value)(g n c:Nat)(lim:Int)(w:World)(hB:Blk w g 28 (rxsC L0++tl))(hL:∀x∈L0,(rxC x).length=22)(hn:L0.length=n)(hn9:n≤12) :
  Calls Tryz.prog 125 #[.slice (some ⟨g,0,none⟩) n c,.int .i64 0,.int .i64 (n:Int),.int .i64 lim,.func (.func 88) #[] #[]] w fun e w'=>e=.returned (.tuple #[])∧∃L',L'.Perm L0∧SortK L'∧Blk w' g 28 (rxsC L'++tl)∧Kept (fun b=>b=g) w w':=by
 have HI:=hid (isort_any L0 tl g n c w hB hL hn (by omega))
 clear hB hL hn;have h12:decide ((n:Int)≤12)=true:=decide_eq_true (by omega)
 go_enter Tryz.func125,Tryz.ntmps125
 go_wp2_with fail
 go_loopw [1,2] (fun a b wr=>a=.int .i64 0∧b=.int .i64 (n:Int)∧wr=w) (fun _ _ _=>0)
 case atStart=>exact⟨rfl,rfl,rfl⟩
 case round =>
  obtain⟨rfl,rfl,rfl⟩:=hrel;go_wp2_with (go_at_call 150;(with_reducible refine HI.out.mono ?_);rintro e w2 ⟨rfl,hx⟩)
  refine bodyPost_ret (results_none rfl _ _ _) rfl ?_
  exact⟨rfl,hx⟩
theorem sortR_any (L0:List RX)(tl:List Value)(g n c:Nat)(w:World)(hB:Blk w g 28 (rxsC L0++tl))(hL:∀x∈L0,(rxC x).length=22)(hn:L0.length=n)(hn9:n≤12) :
  Calls Tryz.prog 87 #[.slice (some ⟨g,0,none⟩) n c,.func (.func 88) #[] #[]] w fun e w'=>e=.returned (.tuple #[])∧∃L',L'.Perm L0∧SortK L'∧Blk w' g 28 (rxsC L'++tl)∧Kept (fun b=>b=g) w w':=by
 have HP:=hid (fun lim=>pdq_any L0 tl g n c lim w hB hL hn hn9)
 have HLN:=hid (len_any (n:Int) w (by omega) (by omega))
 clear hB hL hn;have hw:IntKind.u64.wrap (n:Int)=n:=by simp [IntKind.wrap,IntKind.bits,IntKind.signed];omega
 go_enter Tryz.func87,Tryz.ntmps87
 go_wp2_with (first
  | (go_at_call 126;(with_reducible refine HLN.out.mono ?_);rintro e w2 ⟨⟨k,rfl⟩,rfl⟩)
  | (go_at_call 125;(with_reducible refine (HP.out _).mono ?_);rintro e w2 ⟨rfl,hx⟩))
 go_end0
 exact⟨rfl,hx⟩
end
end Go.Proofs.YtjeecfjeooehhaaGreatDoor