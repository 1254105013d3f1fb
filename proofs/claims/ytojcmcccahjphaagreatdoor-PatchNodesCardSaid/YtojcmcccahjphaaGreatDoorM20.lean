/- Standing's closures, and slices.Clone at IDs. Conditions: the slices can be read. -/
import Derived.Test.YtojcmcccahjphaaGreatDoorM10
import Derived.Test.YtojcmcccahjphaaGreatDoorM4
import Derived.Laws.CopyRow
set_option linter.unusedSimpArgs false
set_option linter.unusedVariables false
set_option maxHeartbeats 16000000
set_option maxRecDepth 100000
namespace Go.Proofs.YtojcmcccahjphaaGreatDoor
open Go.RowKit
open Lib (hid)
attribute [local go_sem ↓] wp_at_zero wp_at_succ
end Go.Proofs.YtojcmcccahjphaaGreatDoor
/- slices.Clone at IDs; the comparison of reviews; insertion sort of reviews. Conditions: the slices can be read. -/
namespace Go.Proofs.YtojcmcccahjphaaGreatDoor
open Go.RowKit
open Lib (hid)
attribute [local go_sem ↓] wp_at_zero wp_at_succ
def ltK (a b : Rev) : Prop := a.shop < b.shop ∨ a.shop = b.shop ∧ a.seq < b.seq
end Go.Proofs.YtojcmcccahjphaaGreatDoor
/- XFlowU's law with operations behind operation L, whose values last as L's does. No condition. -/
namespace Go.Proofs.YtojcmcccahjphaaGreatDoor
open Go.RowKit
open Lib (hid)
section
variable {P : Program} {ops : Array Oper} {Q : Exit → Act → World → Prop}
def flowStepV (P : Program) (l : List Oper) (Q : Exit → Act → World → Prop) (F : (Nat → Value) → Act) (L : Nat) (oL : Oper) (late aft : Nat → Bool) (R1 R2 : World → World → Prop) (Raw : Nat → Value → World → Prop) (w0 : World) (o : Oper) (i : Nat) : Prop :=
 ∀ (us : Nat → Value) (W : World) (K : Act → World → Prop),R1 w0 W → ((i == L || waitsB oL i) = true → R2 w0 W) → (∀ j,waitsB o j = true → (late j || j == L || aft j || (i == L || waitsB oL i)) = true → Raw j (us j) W) →
  (∀ v W',(∀ W'',(cond (i == L || aft i || !late i) R2 R1) W' W'' → Raw i v W'') → (cond (i == L) R1 R2) W W' → K ((F us).put o.dst v) W') → wpList P l.toArray (Exit.then K Q) [o] (F us) W
def flowStepsV (P : Program) (l : List Oper) (Q : Exit → Act → World → Prop) (F : (Nat → Value) → Act) (L : Nat) (oL : Oper) (late aft : Nat → Bool) (R1 R2 : World → World → Prop) (Raw : Nat → Value → World → Prop) (w0 : World) : List Oper → Nat → Prop
 | [],_ => True
 | o :: r,k => flowStepV P l Q F L oL late aft R1 R2 Raw w0 o k ∧ flowStepsV P l Q F L oL late aft R1 R2 Raw w0 r (k + 1)
theorem flowStepsV_at {l : List Oper} {F : (Nat → Value) → Act} {L : Nat} {oL : Oper} {late aft : Nat → Bool} {R1 R2 : World → World → Prop} {Raw : Nat → Value → World → Prop} {w0 : World} : ∀ {r : List Oper} {k i : Nat} {o : Oper},flowStepsV P l Q F L oL late aft R1 R2 Raw w0 r k → r[i]? = some o → flowStepV P l Q F L oL late aft R1 R2 Raw w0 o (k + i)
 | [],_,_,_,_,h => by simp at h
 | x :: r,k,0,o,hs,h => by
  simp only [List.getElem?_cons_zero,Option.some.injEq] at h
  subst h
  exact hs.1
 | x :: r,k,i + 1,o,hs,h => by
  simp only [List.getElem?_cons_succ] at h
  have := flowStepsV_at hs.2 h
  rw [show k + 1 + i = k + (i + 1) by omega] at this
  exact this
def aftB (l : List Oper) (L : Nat) (aft : Nat → Bool) : Bool := (List.range l.length).all fun i => !aft i || (match l[i]? with | some o => o.after.any (fun e => Region.binds .any e && (e.on == L || aft e.on) && decide (e.on < i)) | none => true)
theorem aft_listed {l : List Oper} {n L : Nat} {aft : Nat → Bool} {listed : Array Bool} (inv : HeadInv .any l.toArray n listed) (hA : aftB l L aft = true) : ∀ i,aft i = true → listed.getD i false = true → listed.getD L false = true := by
 intro i
 induction i using Nat.strongRecOn with
 | _ i ih =>
  intro ha hl
  have hlt : i < l.length := by
   rcases Nat.lt_or_ge i listed.size with h | h
   ·rw [inv.size] at h;simpa using h
   ·rw [Array.getD_eq_getD_getElem?,Array.getElem?_eq_none h] at hl;cases hl
  have ho : l[i]? = some l[i] := List.getElem?_eq_getElem hlt
  have h1 := List.all_eq_true.1 hA i (List.mem_range.2 hlt)
  rw [ha,ho] at h1
  simp only [Bool.not_true,Bool.false_or] at h1
  obtain ⟨e,he,hb⟩ := Array.any_eq_true'.1 h1
  simp only [Bool.and_eq_true,Bool.or_eq_true,beq_iff_eq,decide_eq_true_eq] at hb
  have h3 := inv.closed i l[i] (by rw [List.getElem?_toArray];exact ho) hl e he hb.1.1
  rcases hb.1.2 with h | h
  ·rw [h] at h3;exact h3
  ·exact ih e.on hb.2 h h3
theorem avail {late aft : Nat → Bool} {j L : Nat} {q B : Bool} (h : (late j || j == L || aft j || q) = true) (hL : q = true → B = false) : late j = true ∨ B = false ∨ j = L ∨ aft j = true := by
 simp only [Bool.or_eq_true,beq_iff_eq] at h
 rcases h with ((h | h) | h) | h
 ·exact Or.inl h
 ·exact Or.inr (Or.inr (Or.inl h))
 ·exact Or.inr (Or.inr (Or.inr h))
 ·exact Or.inr (Or.inl (hL h))
theorem flow_anyV {l : List Oper} {n L : Nat} {oL : Oper} {late aft : Nat → Bool} {F : (Nat → Value) → Act} {R1 R2 : World → World → Prop} {Raw : Nat → Value → World → Prop} {a : Act} {w0 : World} (hF : ∀ us,flowAct us (l.take n) 0 a = F us) (hB : flowB l n = true) (hA : aftB l L aft = true) (hL : l[L]? = some oL) (hR0 : ∀ w,R2 w w) (h21 : ∀ {x y},R2 x y → R1 x y) (hR1t : ∀ {x y z},R1 x y → R1 y z → R1 x z) (hR2t : ∀ {x y z},R2 x y → R2 y z → R2 x z)
  (hs : flowStepsV P l Q F L oL late aft R1 R2 Raw w0 (l.take n) 0)
  (ht : ∀ us W,R1 w0 W → (∀ j,j < n → (late j || j == L || aft j) = true → Raw j (us j) W) → wpList P l.toArray Q (l.drop n) (F us) W) :
  ∀ (m : Nat) (listed : Array Bool) (us : Nat → Value) (W : World),cntU n listed = m → HeadInv .any l.toArray n listed → R1 w0 W → (listed.getD L false = false → R2 w0 W) → (∀ j,j < n → listed.getD j false = true → (late j = true ∨ listed.getD L false = false ∨ j = L ∨ aft j = true) → ∀ W',(cond (j == L || aft j || !late j) R2 R1) W W' → Raw j (us j) W') →
   wpAny P .any l.toArray Q (m + (l.length - n)) listed (flowAct us (l.take n) 0 a) W := by
 have hc0 : ∀ (b : Bool) w,(cond b R2 R1) w w := fun b w => by cases b <;> first | exact h21 (hR0 w) | exact hR0 w
 simp only [flowB,Bool.and_eq_true,Bool.or_eq_true,decide_eq_true_eq] at hB
 obtain ⟨⟨⟨⟨hn,hdis⟩,hback⟩,hsink⟩,hseq⟩ := hB
 intro m
 induction m with
 | zero =>
  intro listed us W hc inv hR hR2 hf
  have hfull := full_eq inv (by simpa using hn) hc
  have hz := cntU_zero hc
  rw [Nat.zero_add,hfull]
  have := wpAny_of_seq (P := P) (md := .any) (ops := l.toArray) (Q' := Q) (l.drop n) n (headFull n l.toArray.size) (flowAct us (l.take n) 0 a) W (fun j => by simp [List.getElem?_drop]) (by simpa using hseq) (by rw [hF];exact ht us W hR (fun j hj hlj => hf j hj (hz j hj) (by simp only [Bool.or_eq_true,beq_iff_eq] at hlj;exact hlj.elim (fun h => h.elim Or.inl (fun h => Or.inr (Or.inr (Or.inl h)))) (fun h => Or.inr (Or.inr (Or.inr h)))) W (hc0 _ W)))
  rw [List.length_drop] at this
  exact this
 | succ m ih =>
  intro listed us W hc inv hR hR2 hf
  rw [show m + 1 + (l.length - n) = (m + (l.length - n)) + 1 by omega]
  obtain ⟨i0,hi0,hu0,hl0⟩ := cntU_first (n := n) (listed := listed) (by omega)
  have hin0 : i0 < listed.size := by rw [inv.size];simp;omega
  have hu0' : listed.getD i0 true = false := getD_in hin0 hu0
  have ho0 : l[i0]? = some (l[i0]'(by omega)) := List.getElem?_eq_getElem _
  have hr0 : i0 ∈ Region.ready .any l.toArray listed := mem_ready.2 ⟨hu0',_,by rw [List.getElem?_toArray];exact ho0,fun e he hb => hl0 _ (by have := backB_spec hback ho0 e he hb;omega)⟩
  refine ⟨fun h => (by rw [h] at hr0;cases hr0),fun i hi => ?_⟩
  obtain ⟨hiu,o,ho,hall⟩ := mem_ready.1 hi
  rw [List.getElem?_toArray] at ho
  have hil : i < l.length := (List.getElem?_eq_some_iff.1 ho).1
  have hin : i < n := by
   rcases Nat.lt_or_ge i n with h | h
   ·exact h
   ·rcases hsink with he | ⟨⟨hlt,hsi⟩,hch⟩
    ·omega
    ·exact absurd hi (tail_waits hsi hch (by simpa using hlt) inv _ i0 rfl hi0 hu0' i h)
  have hoh : (l.take n)[i]? = some o := by rw [List.getElem?_take,if_pos hin];exact ho
  have hstep := flowStepsV_at hs hoh
  have hif : listed.getD i false = false := by
   cases h : listed.getD i false with
   | false => rfl
   | true =>
    have hlt : i < listed.size := by
     rw [inv.size];simpa using hil
    rw [Array.getD_eq_getD_getElem?,Array.getElem?_eq_getElem hlt] at h hiu
    simp only [Option.getD_some] at h hiu
    rw [h] at hiu
    cases hiu
  rw [Nat.zero_add] at hstep
  have hLn : (i == L || waitsB oL i) = true → listed.getD L false = false := fun hiL => by
   rw [Bool.or_eq_true] at hiL
   rcases hiL with h | h
   ·have : i = L := by simpa using h
    rw [← this];exact hif
   ·cases hl : listed.getD L false with
    | false => rfl
    | true =>
     obtain ⟨e,he,hb⟩ := Array.any_eq_true'.1 h
     simp only [Bool.and_eq_true,beq_iff_eq] at hb
     have h3 := inv.closed L oL (by rw [List.getElem?_toArray];exact hL) hl e he hb.1
     rw [hb.2,hif] at h3
     cases h3
  rw [hF]
  refine wpOp_of_one (by rw [List.getElem?_toArray];exact ho) (hstep us W _ hR (fun hiL => hR2 (hLn hiL)) (fun j hj hlj => ?_) (fun v W' hv hWW => ?_))
  ·obtain ⟨e,he,hb⟩ := Array.any_eq_true'.1 hj
   simp only [Bool.and_eq_true,beq_iff_eq] at hb
   have h1 := hall e he hb.1
   have h2 := backB_spec hback ho e he hb.1
   rw [hb.2] at h1 h2
   exact hf j (by omega) h1 (avail hlj hLn) W (hc0 _ W)
  ·rw [← hF,flowAct_put us v (l.take n) 0 i o a hdis hoh,Nat.zero_add]
   have hWW1 : R1 W W' := by
    cases hb : (i == L) <;> rw [hb] at hWW
    ·exact h21 hWW
    ·exact hWW
   refine ih (listed.setIfInBounds i true) (upd us i v) W' (by have := cntU_set hin hiu;omega) (inv.set hi hin) (hR1t hR hWW1) (fun hLf => ?_) (fun j hj hjl hjc W'' hW'' => ?_)
   ·by_cases hiL : i = L
    ·subst hiL
     have hlt : i < listed.size := by rw [inv.size];simpa using hil
     rw [Array.getD_eq_getD_getElem?,Array.getElem?_setIfInBounds_self_of_lt hlt] at hLf
     cases hLf
    ·rw [getD_set_ne false hiL] at hLf
     have hb : (i == L) = false := by simpa using hiL
     rw [hb] at hWW
     exact hR2t (hR2 hLf) hWW
   ·by_cases hji : j = i
    ·subst hji
     simp only [upd,if_true]
     exact hv W'' hW''
    ·simp only [upd,if_neg hji]
     rw [getD_set_ne false (Ne.symm hji)] at hjl
     have hjc2 : late j = true ∨ listed.getD L false = false ∨ j = L ∨ aft j = true := by
      rcases hjc with h | h | h
      ·exact Or.inl h
      ·by_cases hiL : i = L
       ·subst hiL
        have hlt : i < listed.size := by rw [inv.size];simpa using hil
        rw [Array.getD_eq_getD_getElem?,Array.getElem?_setIfInBounds_self_of_lt hlt] at h
        cases h
       ·rw [getD_set_ne false hiL] at h
        exact Or.inr (Or.inl h)
      ·exact Or.inr (Or.inr h)
     refine hf j hj hjl hjc2 W'' ?_
     cases hb : (j == L || aft j || !late j) <;> rw [hb] at hW''
     ·exact hR1t hWW1 hW''
     ·have hiL : (i == L) = false := by
       cases h : (i == L) with
       | false => rfl
       | true =>
        exfalso
        have hiL : i = L := by simpa using h
        have hjL : j ≠ L := fun h2 => hji (h2.trans hiL.symm)
        cases ha : aft j with
        | true =>
         have h5 := aft_listed inv hA j ha hjl
         rw [← hiL,hif] at h5
         cases h5
        | false =>
         have hnl : late j = false := by
          have : (j == L) = false := by simpa using hjL
          rw [this,ha,Bool.false_or,Bool.false_or] at hb
          simpa using hb
         rcases hjc with h3 | h3 | h3 | h3
         ·rw [hnl] at h3;cases h3
         ·subst hiL
          have hlt : i < listed.size := by rw [inv.size];simpa using hil
          rw [Array.getD_eq_getD_getElem?,Array.getElem?_setIfInBounds_self_of_lt hlt] at h3
          cases h3
         ·exact hjL h3
         ·rw [ha] at h3;cases h3
      rw [hiL] at hWW
      exact hR2t hWW hW''
theorem wp_region_flowV {id : Nat} {a : Act} {w : World} {l : List Oper} (n L : Nat) (oL : Oper) (late aft : Nat → Bool) (F : (Nat → Value) → Act) (hF : ∀ us,flowAct us (l.take n) 0 a = F us) (hm : P.follows .mixedOrders = true) (hB : flowB l n = true) (hA : aftB l L aft = true) (hL : l[L]? = some oL) (R1 R2 : World → World → Prop) (hR0 : ∀ w,R2 w w) (h21 : ∀ {x y},R2 x y → R1 x y) (hR1t : ∀ {x y z},R1 x y → R1 y z → R1 x z) (hR2t : ∀ {x y z},R2 x y → R2 y z → R2 x z) (Raw : Nat → Value → World → Prop)
  (hs : flowStepsV P l Q F L oL late aft R1 R2 Raw w.drew (l.take n) 0)
  (ht : ∀ us W,R1 w.drew W → (∀ j,j < n → (late j || j == L || aft j) = true → Raw j (us j) W) → wpList P l.toArray Q (l.drop n) (F us) W) : (Code.region id l.toArray true).wp P Q a w := by
 refine wp_region_any hm ?_
 have hn : n ≤ l.length := by
  simp only [flowB,Bool.and_eq_true,decide_eq_true_eq] at hB
  exact hB.1.1.1.1
 let us0 : Nat → Value := fun i => match (l.take n)[i]? with | some o => (match o.dst with | some d => a.tmps.getD d undef | none => undef) | none => undef
 have h0 : flowAct us0 (l.take n) 0 a = a := flowAct_own (l.take n) 0 a us0 fun i o ho => by simp only [us0,Nat.zero_add,ho] <;> (cases o.dst <;> rfl)
 have hc : cntU n (Array.replicate l.toArray.size false) = n := by
  unfold cntU
  rw [List.filter_eq_self.2 (fun i _ => by rw [getD_replicate_false];rfl),List.length_range]
 have inv0 : HeadInv .any l.toArray n (Array.replicate l.toArray.size false) :=
  ⟨by simp,fun j oj _ hl => (by rw [getD_replicate_false] at hl;cases hl),fun t _ ht => getD_in (by simpa using ht) (getD_replicate_false _ _)⟩
 have H := flow_anyV (Q := Q) hF hB hA hL hR0 (fun h => h21 h) (fun h1 h2 => hR1t h1 h2) (fun h1 h2 => hR2t h1 h2) hs ht n _ us0 w.drew hc inv0 (h21 (hR0 _)) (fun _ => hR0 _) (fun j _ hj => by rw [getD_replicate_false] at hj;cases hj)
 rw [h0,show n + (l.length - n) = l.toArray.size by simp;omega] at H
 exact H
end
end Go.Proofs.YtojcmcccahjphaaGreatDoor
/- Insertion sort of a row of reviews. Conditions: the row is a block of its own, of at most 10^9 reviews. -/
namespace Go.Proofs.YtojcmcccahjphaaGreatDoor
open Go.RowKit
open Lib (hid)
attribute [local go_sem ↓] wp_at_zero wp_at_succ
def putR (cs : List Value) (o : Nat) (vs : List Value) : List Value := cs.take o ++ vs ++ cs.drop (o + vs.length)
theorem wp_store_seg {P : Program} {op : Oper} {a : Act} {w : World} {K : Act → World → Prop} {Q : Exit → Act → World → Prop} (ty : TypeId) (x y : Operand) (ho : op.op = .store ty x y)
  (g o : Nat) (vs : List Value) (hx : a.eval x = .pointer (some ⟨g,o,none⟩)) (hy : a.eval y = .agg vs.toArray) {t : TypeId} {cs : List Value} (hb : Blk w g t cs) (hi : (P.info? ty).map (·.size) = some vs.length) (hl : o + vs.length ≤ cs.length) (h1 : ∀ v ∈ vs,v.oneCell' = true)
  (h : K (a.put op.dst undef) (w.setRow g (putR cs o vs).toArray)) : op.wp P a w K Q := by
 have hst := run_storeCells_at P g o t vs 0 cs.toArray w hb (by simpa using hl) h1
 unfold Oper.wp execOp
 cases hq : P.info? ty with
 | none => simp [hq] at hi
 | some i =>
  have hs : vs.length = i.size := by simp [hq] at hi;omega
  simp only [Nat.add_zero] at hst
  have hsv : (storeVar ty ⟨g,o,none⟩ (.agg vs.toArray)).run P w = .ok () (w.setRow g (putR cs o vs).toArray) := by
   simp [storeVar,sizeOf,typeInfo,hq,Value.cells,hs,hst,putR]
  simp only [ho,hx,hy,Instr.storeAt,Instr.sureAddr,Sem.run_bind,Sem.run_pure,Result.andThen_ok,hsv]
  exact h
theorem wpList_store_seg {P : Program} {ops : Array Oper} {rest : List Oper} {op : Oper} {a : Act} {w : World} {Q : Exit → Act → World → Prop} (hgd : op.guard = none) (ty : TypeId) (x y : Operand) (ho : op.op = .store ty x y)
  (g o : Nat) (vs : List Value) (hx : a.eval x = .pointer (some ⟨g,o,none⟩)) (hy : a.eval y = .agg vs.toArray) {t : TypeId} {cs : List Value} (hb : Blk w g t cs) (hi : (P.info? ty).map (·.size) = some vs.length) (hl : o + vs.length ≤ cs.length) (h1 : ∀ v ∈ vs,v.oneCell' = true)
  (h : ∀ w2,Hid (w2 = w.setRow g (putR cs o vs).toArray) → Blk w2 g t (putR cs o vs) → wpList P ops Q rest (a.put op.dst undef) w2) : wpList P ops Q (op :: rest) a w :=
 wpList_plain hgd fun _ hK => wp_store_seg ty x y ho g o vs hx hy hb hi hl h1 (hK _ _ (h _ (hid rfl) (hb.setRow _)))
def leK (a b : RX) : Prop := ¬ ltK b.r a.r
theorem leK_trans {a b c : RX} (h1 : leK a b) (h2 : leK b c) : leK a c := by unfold leK ltK at *;omega
theorem leK_of_lt {a b : RX} (h : ltK a.r b.r) : leK a b := by unfold leK ltK at *;omega
def SortK (L : List RX) : Prop := L.Pairwise leK
structure Inn (L0 : List RX) (n i j : Nat) (S : List RX) (x : RX) (Q : List RX) : Prop where
 perm : (S.take j ++ x :: S.drop j ++ Q).Perm L0
 len : S.length = i
 ji : j ≤ i
 tot : i + 1 + Q.length = n
 sor : SortK S
 big : ∀ y ∈ S.drop j,ltK x.r y.r
theorem Inn.step {L0 S Q : List RX} {n i k : Nat} {x : RX} (h : Inn L0 n i (k + 1) S x Q) (hlt : ltK x.r (S[k]'(by have := h.ji;have := h.len;omega)).r) : Inn L0 n i k S x Q := by
 have hk : k < S.length := by have := h.ji;have := h.len;omega
 have e1 : S.take (k + 1) = S.take k ++ [S[k]] := by rw [List.take_succ_eq_append_getElem hk]
 have e2 : S.drop k = S[k] :: S.drop (k + 1) := (List.drop_eq_getElem_cons hk)
 refine ⟨?_,h.len,by have := h.ji;omega,h.tot,h.sor,fun y hy => ?_⟩
 ·refine List.Perm.trans ?_ h.perm
  rw [e1,e2]
  simp only [List.append_assoc,List.cons_append,List.nil_append,List.singleton_append]
  exact List.Perm.append_left _ (List.Perm.swap _ _ _)
 ·rw [e2] at hy
  rcases List.mem_cons.1 hy with rfl | hy
  ·exact hlt
  ·exact h.big y hy
theorem Inn.done {L0 S Q : List RX} {n i j : Nat} {x : RX} (h : Inn L0 n i j S x Q) (hj : j = 0 ∨ ∃ k,∃ hk : k < S.length,j = k + 1 ∧ ¬ ltK x.r (S[k]).r) : SortK ((S.take j ++ x :: S.drop j ++ Q).take (i + 1)) := by
 have hl : (S.take j ++ x :: S.drop j).length = i + 1 := by
  have := h.ji;have := h.len
  simp only [List.length_append,List.length_take,List.length_cons,List.length_drop]
  omega
 rw [List.take_left' hl]
 unfold SortK
 have hs := h.sor
 unfold SortK at hs
 rw [← List.take_append_drop j S,List.pairwise_append] at hs
 rw [List.pairwise_append,List.pairwise_cons]
 refine ⟨hs.1,⟨fun y hy => leK_of_lt (h.big y hy),hs.2.1⟩,fun y hy z hz => ?_⟩
 rcases List.mem_cons.1 hz with rfl | hz
 ·rcases hj with rfl | ⟨k,hk,rfl,hnl⟩
  ·simp at hy
  ·have e1 : S.take (k + 1) = S.take k ++ [S[k]] := by rw [List.take_succ_eq_append_getElem hk]
   have hs1 := hs.1
   rw [e1,List.pairwise_append] at hs1
   rw [e1] at hy
   rcases List.mem_append.1 hy with hy | hy
   ·exact leK_trans (hs1.2.2 y hy _ (List.mem_singleton.2 rfl)) hnl
   ·rw [List.mem_singleton.1 hy]
    exact hnl
 ·exact hs.2.2 y hy z hz
end Go.Proofs.YtojcmcccahjphaaGreatDoor
