/- Nothing that was there has changed but for the blocks of F (as in LkMem: not both in one seat). No condition. -/
import Derived.Test.YtojcmcccahjphaaGreatDoorM1
import Derived.ArgAppend
import Derived.StillTailTactics
set_option linter.unusedSimpArgs false
set_option linter.unusedVariables false
set_option maxHeartbeats 16000000
set_option maxRecDepth 100000
namespace Go.Proofs.YtojcmcccahjphaaGreatDoor
open Go.RowKit
open Lib (hid)
structure Kept (F : Nat → Prop) (w w' : World) : Prop where
 os : w'.os = w.os
 tape : w'.tape = w.tape
 output : w'.output = w.output
 size : w.heap.size ≤ w'.heap.size
 block : ∀ k,k < w.heap.size → ¬ F k → w'.heap[k]? = w.heap[k]?
theorem Kept.refl (F : Nat → Prop) (w : World) : Kept F w w := ⟨rfl,rfl,rfl,Nat.le_refl _,fun _ _ _ => rfl⟩
theorem Kept.of_ext {F : Nat → Prop} {w w' : World} (h : Ext w w') : Kept F w w' := ⟨h.os,h.tape,h.output,h.size,fun k hk _ => h.block k hk⟩
theorem Kept.next {F G : Nat → Prop} {w w1 w2 : World} (h : Kept F w w1) (h2 : Kept G w1 w2) (hG : ∀ b,b < w.heap.size → G b → F b) : Kept F w w2 :=
 ⟨h2.os.trans h.os,h2.tape.trans h.tape,h2.output.trans h.output,Nat.le_trans h.size h2.size,fun k hk hf => (h2.block k (Nat.lt_of_lt_of_le hk h.size) (fun hg => hf (hG k hk hg))).trans (h.block k hk hf)⟩
theorem Kept.trans {F : Nat → Prop} {w w1 w2 : World} (h : Kept F w w1) (h2 : Kept F w1 w2) : Kept F w w2 := h.next h2 (fun _ _ h => h)
theorem Kept.mono {F G : Nat → Prop} {w w' : World} (h : Kept F w w') (hG : ∀ b,b < w.heap.size → F b → G b) : Kept G w w' := ⟨h.os,h.tape,h.output,h.size,fun k hk hf => h.block k hk (fun h => hf (hG k hk h))⟩
theorem Kept.ext {F : Nat → Prop} {w w' : World} (h : Kept F w w') (hF : ∀ b,F b → w.heap.size ≤ b) : Ext w w' := ⟨h.os,h.tape,h.output,h.size,fun k hk => h.block k hk (fun hf => by have := hF k hf;omega)⟩
theorem Kept.of_grown {F : Nat → Prop} {w w' : World} {row : Option Nat} (h : w.grownBy w' row) (hF : ∀ b,row = some b → b < w.heap.size → F b) : Kept F w w' := ⟨h.os,h.tape,h.output,h.size,fun k hk hf => h.block k hk (fun he => hf (hF k he.symm hk))⟩
theorem Kept.drew (F : Nat → Prop) (w : World) : Kept F w w.drew := Kept.of_ext (Ext.refl w).drew
theorem Kept.setRow {F : Nat → Prop} (w : World) {g : Nat} (hg : F g) (cs : Array Value) : Kept F w (w.setRow g cs) := ⟨rfl,rfl,rfl,by simp,fun k _ hf => setRow_other w g k cs (fun h => hf (by rw [h];exact hg))⟩
theorem Kept.setCell {F : Nat → Prop} (w : World) {p : Addr} (hg : F p.block) (v : Value) : Kept F w (w.setCell p v) := ⟨rfl,rfl,rfl,by simp [World.setCell],fun k _ hf => Below.heap_setCell w p v k (fun h => hf (by rw [h];exact hg))⟩
theorem Kept.blk {F : Nat → Prop} {w w' : World} (h : Kept F w w') {g : Nat} {t : TypeId} {cs : List Value} (hb : Blk w g t cs) (hf : ¬ F g) : Blk w' g t cs := (h.block g hb.lt hf).trans hb
theorem Kept.cell {F : Nat → Prop} {w w' : World} (h : Kept F w w') {p : Addr} (hp : p.block < w.heap.size) (hf : ¬ F p.block) : w'.cell? p = w.cell? p := World.cell?_of_block (h.block _ hp hf)
theorem Kept.own {F : Nat → Prop} {w w' : World} (h : Kept F w w') {base : Nat} {e : TypeId} {size : Nat} {v : Value} {n : Nat} {xs : List Value} (ho : w.ownsRow base e size v n xs) (hf : ∀ b,v.ownBlock = some b → ¬ F b) : w'.ownsRow base e size v n xs := by
 refine ⟨ho.1,ho.2.imp id ?_⟩
 rintro ⟨g,cap,cur,rfl,h1,h2,h3⟩
 exact ⟨g,cap,cur,rfl,h1,(h.block g (Array.getElem?_eq_some_iff.1 h2).1 (hf g rfl)).trans h2,h3⟩
end Go.Proofs.YtojcmcccahjphaaGreatDoor
/- append to a slice without room: the source a slice that reads as a list, nil and empty too. No condition. -/
namespace Go.Proofs.YtojcmcccahjphaaGreatDoor
open Go.RowKit
open Lib (hid)
section
variable {P : Program} {w : World}
theorem run_app_tight (t ty e : TypeId) (i : TypeInfo) (z : Value) (bytes : Nat) (ht : P.underlying t = some (.slice e)) (hi : P.info? e = some i) (hz : i.zero = some z) (hsize : i.size = 1) (hby : i.bytes = bytes) (hzs : z.cells.size = 1)
  (b o n : Nat) (xs : List Value) (B : Nat) (hR : Rd w B (some ⟨b,o,none⟩) n xs) (hn0 : 0 < n) (B2 : Nat) (Ad : Option Addr) (m cd : Nat) (news : List Value) (hr : Rd w B2 Ad m news) (h1 : ∀ u ∈ news,u.oneCell' = true) (h63 : n + m ≤ maxLen) (hbytes : (n + m) * bytes ≤ 140737488355328) :
  ∃ A' c' w',(Builtin.append_ #[t,t] ty #[.slice (some ⟨b,o,none⟩) n n,.slice Ad m cd]).run P w = .ok (.slice A' (n + m) c') w' ∧ Rd w' w'.heap.size A' (n + m) (xs ++ news) ∧ n + m ≤ c' ∧ c' ≤ maxLen ∧ Ext w w' := by
 obtain ⟨b',o',hA,hb,hc⟩ := hR.2 hn0
 simp only [Option.some.injEq,Addr.mk.injEq,and_true] at hA
 obtain ⟨rfl,rfl⟩ := hA
 have hRw : Rd w w.heap.size (some ⟨b,o,none⟩) n xs := ⟨hR.1,fun hn => by
  obtain ⟨j,hj⟩ : ∃ j,xs[0]? = some j := ⟨xs[0]'(by rw [hR.1];exact hn),List.getElem?_eq_getElem _⟩
  have h0 := hc 0 _ hj
  exact ⟨b,o,rfl,World.block_lt_of_cell? w _ h0,hc⟩⟩
 rcases Nat.eq_zero_or_pos m with h0 | h0
 ·subst h0
  have hn : news = [] := List.eq_nil_of_length_eq_zero hr.1
  subst hn
  rcases Ad with _ | ad
  ·exact ⟨some ⟨b,o,none⟩,n,w,by simp [Builtin.append_,run_underlying ht,sizeOf,typeInfo,hi,Builtin.lenOf,Builtin.firstCells,storeCells],by simpa using hRw,Nat.le_refl _,by omega,Ext.refl w⟩
  ·have hrun := run_append_room_cells (P := P) w t ty e i ht hi b o n n ad 0 cd [] (by simp) (fun j u hu => by simp at hu) (fun u hu => by cases hu) (Nat.le_refl _) (fun j hj => by simp at hj) (fun j hj => by simp at hj)
   exact ⟨some ⟨b,o,none⟩,n,w,hrun,by simpa using hRw,Nat.le_refl _,by omega,Ext.refl w⟩
 ·obtain ⟨b2,o2,rfl,_,hc2⟩ := hr.2 h0
  obtain ⟨v',w',hrun,hown,hg⟩ := run_append_arg_grows (P := P) w t ty e i z 1 bytes ht hi hz hsize hby hzs (by decide) ⟨b,o,none⟩ n n xs (by rw [hR.1];omega) (fun j u hu => by rw [Addr.add_mid];exact hc j u hu) ⟨b2,o2,none⟩ m cd news (by rw [hr.1];omega) (fun j u hu => by rw [Addr.add_mid];exact hc2 j u hu) (by omega) h63 hbytes
  have hcap : ∃ A' c',v' = .slice A' (n + m) c' ∧ n + m ≤ c' ∧ c' ≤ maxLen := by
   rcases hown.2 with ⟨rfl,h2⟩ | ⟨g,cap,cur,rfl,_,_,h2,h3,_⟩
   ·omega
   ·exact ⟨_,_,rfl,h2,h3⟩
  obtain ⟨A',c',rfl,h2,h3⟩ := hcap
  exact ⟨A',c',w',hrun,Rd.of_own hown,h2,h3,⟨hg.os,hg.tape,hg.output,hg.size,fun k hk => hg.block k hk (by simp)⟩⟩
theorem wpList_app_tight {ops : Array Oper} {rest : List Oper} {op : Oper} {a : Act} {Q : Exit → Act → World → Prop} (hgd : op.guard = none) (s x : Operand) (t : TypeId) (ho : op.op = .call { callee := .builtin .append,args := #[s,x],argTypes := #[t,t] })
  (e : TypeId) (i : TypeInfo) (z : Value) (bytes : Nat) (ht : P.underlying t = some (.slice e)) (hi : P.info? e = some i) (hz : i.zero = some z) (hsize : i.size = 1) (hby : i.bytes = bytes) (hzs : z.cells.size = 1)
  (b o n : Nat) (xs : List Value) (hs : a.eval s = .slice (some ⟨b,o,none⟩) n n) (B : Nat) (hR : Rd w B (some ⟨b,o,none⟩) n xs) (hn0 : 0 < n) (B2 : Nat) (Ad : Option Addr) (m cd : Nat) (news : List Value) (hx : a.eval x = .slice Ad m cd) (hr : Rd w B2 Ad m news) (h1 : ∀ u ∈ news,u.oneCell' = true) (h63 : n + m ≤ maxLen) (hbytes : (n + m) * bytes ≤ 140737488355328)
  (h : ∀ A' c' w',Rd w' w'.heap.size A' (n + m) (xs ++ news) → n + m ≤ c' → c' ≤ maxLen → Ext w w' → wpList P ops Q rest (a.put op.dst (.slice A' (n + m) c')) w') : wpList P ops Q (op :: rest) a w := by
 refine wpList_plain hgd fun K hK => ?_
 obtain ⟨A',c',w',hrun,h2,h3,h4,h5⟩ := run_app_tight (P := P) (w := w) t op.type e i z bytes ht hi hz hsize hby hzs b o n xs B hR hn0 B2 Ad m cd news hr h1 h63 hbytes
 unfold Oper.wp
 simp [execOp,ho,resolve,invoke,builtin,hs,hx,hrun,Result.andThen]
 exact hK _ _ (h A' c' w' h2 h3 h4 h5)
end
end Go.Proofs.YtojcmcccahjphaaGreatDoor
/- A region that draws its order,by the flow of its data: each operation is walked once,in any world that the others may have left. No condition. -/
namespace Go.Proofs.YtojcmcccahjphaaGreatDoor
open Go.RowKit
open Lib (hid)
section
variable {P : Program} {ops : Array Oper} {Q : Exit → Act → World → Prop}
def flowAct (us : Nat → Value) : List Oper → Nat → Act → Act
 | [],_,a => a
 | o :: l,k,a => flowAct us l (k + 1) (a.put o.dst (us k))
theorem Oper.wp_exit {o : Oper} {a : Act} {w : World} {K K2 : Act → World → Prop} (hh : o.wp P a w K (Exit.then K2 Q)) : o.wp P a w K Q := by
 unfold Oper.wp at *
 generalize (execOp a.eval o).run P w = r at *
 cases r with
 | ok n w' =>
  cases n <;> simp only [Oper.upon] at hh ⊢ <;>
   first
    | exact hh
    | exact Calls.mono hh (fun e w'' he => by cases e <;> exact he)
 | halt x w' => cases x <;> simp only [Oper.upon] at hh ⊢ <;> exact hh
theorem wpOp_of_one {i : Nat} {o : Oper} {a : Act} {w : World} {K : Act → World → Prop} (ho : ops[i]? = some o) (h : wpList P ops (Exit.then K Q) [o] a w) : wpOp P ops Q i K a w := by
 have hw : wpOp P ops (Exit.then K Q) i (wpList P ops (Exit.then K Q) []) a w := by unfold wpOp;simp only [ho];exact h
 unfold wpOp at hw ⊢
 simp only [ho] at hw ⊢
 split at hw
 ·rename_i hg
  rw [if_pos hg]
  exact hw.imp (fun h => Oper.wp_exit (K2 := K) (Oper.wp_mono (fun _ _ h => h) h)) (fun h => ⟨h.1,h.2⟩)
 ·rename_i hg
  rw [if_neg hg]
  exact hw
theorem put_same (a : Act) (d : Option Tmp) (x y : Value) : (a.put d x).put d y = a.put d y := by
 cases d with
 | none => rfl
 | some d => simp [Act.put]
theorem put_comm (a : Act) {d e : Option Tmp} (h : d ≠ e) (x y : Value) : (a.put d x).put e y = (a.put e y).put d x := by
 cases d with
 | none => cases e <;> rfl
 | some d =>
  cases e with
  | none => rfl
  | some e =>
   simp only [Act.put]
   rw [Array.setIfInBounds_comm _ _ (fun h2 => h (by rw [h2]))]
theorem put_own (a : Act) (d : Option Tmp) : a.put d (match d with | some d => a.tmps.getD d undef | none => undef) = a := by
 cases d with
 | none => rfl
 | some d =>
  simp only [Act.put]
  obtain ⟨t,df⟩ := a
  simp only [Act.mk.injEq,and_true]
  apply Array.ext
  ·simp
  ·intro i h1 h2
   rw [Array.getElem_setIfInBounds]
   split
   ·rename_i he
    subst he
    simp [h2]
   ·rfl
theorem flowAct_comm (us : Nat → Value) {d : Option Tmp} (v : Value) : ∀ (l : List Oper) (k : Nat) (a : Act),(∀ o ∈ l,o.dst ≠ d) → (flowAct us l k a).put d v = flowAct us l k (a.put d v)
 | [],_,_,_ => rfl
 | o :: l,k,a,h => by
  unfold flowAct
  rw [flowAct_comm us v l (k + 1) _ (fun x hx => h x (List.mem_cons_of_mem _ hx)),put_comm a (h o (List.mem_cons_self ..))]
theorem flowAct_congr {us us' : Nat → Value} : ∀ (l : List Oper) (k : Nat) (a : Act),(∀ j,k ≤ j → us j = us' j) → flowAct us l k a = flowAct us' l k a
 | [],_,_,_ => rfl
 | o :: l,k,a,h => by
  unfold flowAct
  rw [h k (Nat.le_refl _),flowAct_congr l (k + 1) _ (fun j hj => h j (by omega))]
def upd (us : Nat → Value) (i : Nat) (v : Value) : Nat → Value := fun j => if j = i then v else us j
def distinctB : List Oper → Bool
 | [] => true
 | o :: l => (l.all fun x => x.dst != o.dst) && distinctB l
theorem flowAct_put (us : Nat → Value) (v : Value) : ∀ (l : List Oper) (k i : Nat) (o : Oper) (a : Act),distinctB l = true → l[i]? = some o → (flowAct us l k a).put o.dst v = flowAct (upd us (k + i) v) l k a
 | [],_,_,_,_,_,h => by simp at h
 | x :: l,k,0,o,a,hd,h => by
  simp only [List.getElem?_cons_zero,Option.some.injEq] at h
  subst h
  simp only [distinctB,Bool.and_eq_true,List.all_eq_true,bne_iff_ne] at hd
  unfold flowAct
  rw [flowAct_comm us v l (k + 1) _ hd.1,put_same]
  have : upd us (k + 0) v k = v := by simp [upd]
  rw [this]
  exact flowAct_congr l (k + 1) _ (fun j hj => by simp only [upd];rw [if_neg (by omega)])
 | x :: l,k,i + 1,o,a,hd,h => by
  simp only [List.getElem?_cons_succ] at h
  simp only [distinctB,Bool.and_eq_true] at hd
  unfold flowAct
  rw [flowAct_put us v l (k + 1) i o _ hd.2 h]
  have h1 : upd us (k + (i + 1)) v k = us k := by simp only [upd];rw [if_neg (by omega)]
  rw [h1,show k + 1 + i = k + (i + 1) by omega]
theorem flowAct_own : ∀ (l : List Oper) (k : Nat) (a : Act) (us : Nat → Value),(∀ i o,l[i]? = some o → us (k + i) = (match o.dst with | some d => a.tmps.getD d undef | none => undef)) → flowAct us l k a = a
 | [],_,_,_,_ => rfl
 | o :: l,k,a,us,h => by
  unfold flowAct
  have h0 := h 0 o rfl
  rw [Nat.add_zero] at h0
  rw [h0,put_own]
  refine flowAct_own l (k + 1) a us fun i x hx => ?_
  have := h (i + 1) x (by simpa using hx)
  rw [show k + 1 + i = k + (i + 1) by omega]
  exact this
def waitsB (o : Oper) (j : Nat) : Bool := o.after.any fun e => Region.binds .any e && e.on == j
def backB : List Oper → Nat → Bool
 | [],_ => true
 | o :: l,k => (o.after.all fun e => !Region.binds .any e || decide (e.on < k)) && backB l (k + 1)
theorem backB_spec : ∀ {l : List Oper} {k i : Nat} {o : Oper},backB l k = true → l[i]? = some o → ∀ e ∈ o.after,Region.binds .any e = true → e.on < k + i
 | [],_,_,_,_,h => by simp at h
 | x :: l,k,0,o,hb,h => by
  simp only [List.getElem?_cons_zero,Option.some.injEq] at h
  subst h
  simp only [backB,Bool.and_eq_true] at hb
  intro e he hbi
  have := Array.all_eq_true'.1 hb.1 e he
  simp only [Bool.or_eq_true,Bool.not_eq_true',decide_eq_true_eq] at this
  rcases this with h2 | h2
  ·rw [hbi] at h2;cases h2
  ·exact h2
 | x :: l,k,i + 1,o,hb,h => by
  simp only [List.getElem?_cons_succ] at h
  simp only [backB,Bool.and_eq_true] at hb
  intro e he hbi
  have := backB_spec hb.2 h e he hbi
  omega
def headFull (n size : Nat) : Array Bool := (List.replicate n true ++ List.replicate (size - n) false).toArray
def flowB (l : List Oper) (n : Nat) : Bool :=
 decide (n ≤ l.length) && distinctB (l.take n) && backB l 0 && (decide (n = l.length) || (decide (n < l.length) && Region.sinkB .any l.toArray n && Region.chainB .any l.toArray n)) && Region.seqB .any l.toArray (l.length - n) n (headFull n l.length)
def flowStep (P : Program) (l : List Oper) (Q : Exit → Act → World → Prop) (hd : List Oper) (R : World → World → Prop) (Raw : Nat → Value → World → Prop) (a : Act) (w0 : World) (o : Oper) (i : Nat) : Prop :=
 ∀ (us : Nat → Value) (W : World) (K : Act → World → Prop),R w0 W → (∀ j,waitsB o j = true → Raw j (us j) W) →
  (∀ v W',(∀ W'',R W' W'' → Raw i v W'') → R W W' → K ((flowAct us hd 0 a).put o.dst v) W') → wpList P l.toArray (Exit.then K Q) [o] (flowAct us hd 0 a) W
def flowSteps (P : Program) (l : List Oper) (Q : Exit → Act → World → Prop) (hd : List Oper) (R : World → World → Prop) (Raw : Nat → Value → World → Prop) (a : Act) (w0 : World) : List Oper → Nat → Prop
 | [],_ => True
 | o :: r,k => flowStep P l Q hd R Raw a w0 o k ∧ flowSteps P l Q hd R Raw a w0 r (k + 1)
theorem flowSteps_at {l hd : List Oper} {R : World → World → Prop} {Raw : Nat → Value → World → Prop} {a : Act} {w0 : World} : ∀ {r : List Oper} {k i : Nat} {o : Oper},flowSteps P l Q hd R Raw a w0 r k → r[i]? = some o → flowStep P l Q hd R Raw a w0 o (k + i)
 | [],_,_,_,_,h => by simp at h
 | x :: r,k,0,o,hs,h => by
  simp only [List.getElem?_cons_zero,Option.some.injEq] at h
  subst h
  exact hs.1
 | x :: r,k,i + 1,o,hs,h => by
  simp only [List.getElem?_cons_succ] at h
  have := flowSteps_at hs.2 h
  rw [show k + 1 + i = k + (i + 1) by omega] at this
  exact this
def cntU (n : Nat) (listed : Array Bool) : Nat := ((List.range n).filter fun i => !listed.getD i false).length
theorem cntU_set {n i : Nat} {listed : Array Bool} (hi : i < n) (hu : listed.getD i true = false) : cntU n (listed.setIfInBounds i true) + 1 = cntU n listed := by
 have hlt : i < listed.size := by
  rcases Nat.lt_or_ge i listed.size with h | h
  ·exact h
  ·simp [Array.getElem?_eq_none h] at hu
 unfold cntU
 have key : ∀ (m : Nat),((List.range m).filter fun j => !(listed.setIfInBounds i true).getD j false).length + (if i < m then 1 else 0) = ((List.range m).filter fun j => !listed.getD j false).length := by
  intro m
  induction m with
  | zero => simp
  | succ m ih =>
   rw [List.range_succ,List.filter_append,List.filter_append,List.length_append,List.length_append]
   by_cases him : i = m
   ·subst him
    rw [if_neg (Nat.lt_irrefl _)] at ih
    rw [if_pos (Nat.lt_succ_self _)]
    have h1 : (listed.setIfInBounds i true).getD i false = true := by simp [hlt]
    have h2 : listed.getD i false = false := getD_both hu
    simp only [List.filter_cons,List.filter_nil,h1,h2,Bool.not_true,Bool.not_false,Bool.false_eq_true,if_false,if_true,List.length_nil,List.length_cons]
    omega
   ·have h1 := getD_set_ne (listed := listed) (i := i) (j := m) false him
    have h3 : (if i < m + 1 then 1 else 0) = (if i < m then 1 else 0) := by
     split <;> split <;> omega
    simp only [List.filter_cons,List.filter_nil,h1]
    omega
 have := key n
 rw [if_pos hi] at this
 exact this
theorem cntU_zero {n : Nat} {listed : Array Bool} (h : cntU n listed = 0) : ∀ i,i < n → listed.getD i false = true := by
 intro i hi
 have h2 := List.eq_nil_of_length_eq_zero h
 have h3 := List.filter_eq_nil_iff.1 h2 i (List.mem_range.2 hi)
 simpa using h3
theorem cntU_first {n : Nat} {listed : Array Bool} (h : cntU n listed ≠ 0) : ∃ i,i < n ∧ listed.getD i false = false ∧ ∀ j,j < i → listed.getD j false = true := by
 have hex : ∃ i,i < n ∧ listed.getD i false = false := by
  have h2 : (List.range n).filter (fun i => !listed.getD i false) ≠ [] := fun h3 => h (by unfold cntU;rw [h3];rfl)
  obtain ⟨i,hi⟩ := List.exists_mem_of_ne_nil _ h2
  rw [List.mem_filter,List.mem_range] at hi
  exact ⟨i,hi.1,by simpa using hi.2⟩
 obtain ⟨i,hi⟩ := hex
 induction i using Nat.strongRecOn with
 | _ i ih =>
  by_cases hj : ∀ j,j < i → listed.getD j false = true
  ·exact ⟨i,hi.1,hi.2,hj⟩
  ·have : ∃ j,j < i ∧ listed.getD j false = false := by
    apply Classical.byContradiction
    intro hn
    refine hj fun j hji => ?_
    cases hl : listed.getD j false with
    | true => rfl
    | false => exact absurd ⟨j,hji,hl⟩ hn
   obtain ⟨j,hji,hl⟩ := this
   exact ih j hji ⟨by omega,hl⟩
theorem headFull_get (n size j : Nat) (hn : n ≤ size) (hj : j < size) : (headFull n size)[j]? = some (decide (j < n)) := by
 unfold headFull
 rw [List.getElem?_toArray]
 by_cases h : j < n
 ·rw [List.getElem?_append_left (by simpa using h)]
  simp [h]
 ·rw [List.getElem?_append_right (by simpa using h)]
  simp only [List.length_replicate]
  rw [List.getElem?_replicate,if_pos (by omega)]
  simp [h]
theorem full_eq {n : Nat} {listed : Array Bool} (inv : HeadInv .any ops n listed) (hn : n ≤ ops.size) (h : cntU n listed = 0) : listed = headFull n ops.size := by
 have hz := cntU_zero h
 apply Array.ext_getElem?
 intro j
 rcases Nat.lt_or_ge j ops.size with hj | hj
 ·rw [headFull_get n ops.size j hn hj,Array.getElem?_eq_getElem (by rw [inv.size];exact hj)]
  congr 1
  by_cases hjn : j < n
  ·have := hz j hjn
   rw [Array.getD_eq_getD_getElem?,Array.getElem?_eq_getElem (by rw [inv.size];exact hj)] at this
   simp only [Option.getD_some] at this
   rw [this];simp [hjn]
  ·have := inv.tail j (by omega) hj
   rw [Array.getD_eq_getD_getElem?,Array.getElem?_eq_getElem (by rw [inv.size];exact hj)] at this
   simp only [Option.getD_some] at this
   rw [this];simp [hjn]
 ·have h2 : (headFull n ops.size).size = ops.size := by simp [headFull];omega
  rw [Array.getElem?_eq_none (by rw [inv.size];exact hj),Array.getElem?_eq_none (by rw [h2];exact hj)]
theorem flow_any {l : List Oper} {n : Nat} {R : World → World → Prop} {Raw : Nat → Value → World → Prop} {a : Act} {w0 : World} (hB : flowB l n = true) (hR0 : ∀ w,R w w) (hRt : ∀ {x y z},R x y → R y z → R x z)
  (hs : flowSteps P l Q (l.take n) R Raw a w0 (l.take n) 0)
  (ht : ∀ us W,R w0 W → (∀ j,j < n → Raw j (us j) W) → wpList P l.toArray Q (l.drop n) (flowAct us (l.take n) 0 a) W) :
  ∀ (m : Nat) (listed : Array Bool) (us : Nat → Value) (W : World),cntU n listed = m → HeadInv .any l.toArray n listed → R w0 W → (∀ j,j < n → listed.getD j false = true → ∀ W',R W W' → Raw j (us j) W') →
   wpAny P .any l.toArray Q (m + (l.length - n)) listed (flowAct us (l.take n) 0 a) W := by
 simp only [flowB,Bool.and_eq_true,Bool.or_eq_true,decide_eq_true_eq] at hB
 obtain ⟨⟨⟨⟨hn,hdis⟩,hback⟩,hsink⟩,hseq⟩ := hB
 intro m
 induction m with
 | zero =>
  intro listed us W hc inv hR hf
  have hfull := full_eq inv (by simpa using hn) hc
  have hz := cntU_zero hc
  rw [Nat.zero_add,hfull]
  have := wpAny_of_seq (P := P) (md := .any) (ops := l.toArray) (Q' := Q) (l.drop n) n (headFull n l.toArray.size) (flowAct us (l.take n) 0 a) W (fun j => by simp [List.getElem?_drop]) (by simpa using hseq) (ht us W hR (fun j hj => hf j hj (hz j hj) W (hR0 W)))
  rw [List.length_drop] at this
  exact this
 | succ m ih =>
  intro listed us W hc inv hR hf
  rw [show m + 1 + (l.length - n) = (m + (l.length - n)) + 1 by omega]
  obtain ⟨i0,hi0,hu0,hl0⟩ := cntU_first (n := n) (listed := listed) (by omega)
  have hin0 : i0 < listed.size := by rw [inv.size];simp;omega
  have hu0' : listed.getD i0 true = false := getD_in hin0 hu0
  have ho0 : l[i0]? = some (l[i0]'(by omega)) := List.getElem?_eq_getElem _
  have hr0 : i0 ∈ Region.ready .any l.toArray listed := mem_ready.2 ⟨hu0',_,by rw [List.getElem?_toArray];exact ho0,fun e he hb => hl0 _ (by have := backB_spec hback ho0 e he hb;omega)⟩
  refine ⟨fun h => (by rw [h] at hr0;cases hr0),fun i hi => ?_⟩
  obtain ⟨hiu,o,ho,hall⟩ := mem_ready.1 hi
  rw [List.getElem?_toArray] at ho
  have hil : i < l.length := (List.getElem?_eq_some_iff.1 ho).1
  have hin : i < n := by
   rcases Nat.lt_or_ge i n with h | h
   ·exact h
   ·rcases hsink with he | ⟨⟨hlt,hsi⟩,hch⟩
    ·omega
    ·exact absurd hi (tail_waits hsi hch (by simpa using hlt) inv _ i0 rfl hi0 hu0' i h)
  have hoh : (l.take n)[i]? = some o := by rw [List.getElem?_take,if_pos hin];exact ho
  have hstep := flowSteps_at hs hoh
  rw [Nat.zero_add] at hstep
  refine wpOp_of_one (by rw [List.getElem?_toArray];exact ho) (hstep us W _ hR (fun j hj => ?_) (fun v W' hv hWW => ?_))
  ·obtain ⟨e,he,hb⟩ := Array.any_eq_true'.1 hj
   simp only [Bool.and_eq_true,beq_iff_eq] at hb
   have h1 := hall e he hb.1
   have h2 := backB_spec hback ho e he hb.1
   rw [hb.2] at h1 h2
   exact hf j (by omega) h1 W (hR0 W)
  ·rw [flowAct_put us v (l.take n) 0 i o a hdis hoh,Nat.zero_add]
   refine ih (listed.setIfInBounds i true) (upd us i v) W' (by have := cntU_set hin hiu;omega) (inv.set hi hin) (hRt hR hWW) (fun j hj hjl W'' hW'' => ?_)
   by_cases hji : j = i
   ·subst hji
    simp only [upd,if_true]
    exact hv W'' hW''
   ·simp only [upd,if_neg hji]
    rw [getD_set_ne false (Ne.symm hji)] at hjl
    exact hf j hj hjl W'' (hRt hWW hW'')
theorem K_at {K : Act → World → Prop} {a b : Act} {W : World} (h : K b W) (e : a = b) : K a W := e ▸ h
theorem wp_region_flow {id : Nat} {a : Act} {w : World} {l : List Oper} (n : Nat) (hm : P.follows .mixedOrders = true) (hB : flowB l n = true) (R : World → World → Prop) (hR0 : ∀ w,R w w) (hRt : ∀ {x y z},R x y → R y z → R x z) (Raw : Nat → Value → World → Prop)
  (hs : flowSteps P l Q (l.take n) R Raw a w.drew (l.take n) 0)
  (ht : ∀ us W,R w.drew W → (∀ j,j < n → Raw j (us j) W) → wpList P l.toArray Q (l.drop n) (flowAct us (l.take n) 0 a) W) : (Code.region id l.toArray true).wp P Q a w := by
 refine wp_region_any hm ?_
 have hn : n ≤ l.length := by
  simp only [flowB,Bool.and_eq_true,decide_eq_true_eq] at hB
  exact hB.1.1.1.1
 let us0 : Nat → Value := fun i => match (l.take n)[i]? with | some o => (match o.dst with | some d => a.tmps.getD d undef | none => undef) | none => undef
 have h0 : flowAct us0 (l.take n) 0 a = a := flowAct_own (l.take n) 0 a us0 fun i o ho => by simp only [us0,Nat.zero_add,ho]
 have hc : cntU n (Array.replicate l.toArray.size false) = n := by
  unfold cntU
  rw [List.filter_eq_self.2 (fun i _ => by rw [getD_replicate_false];rfl),List.length_range]
 have inv0 : HeadInv .any l.toArray n (Array.replicate l.toArray.size false) :=
  ⟨by simp,fun j oj _ hl => (by rw [getD_replicate_false] at hl;cases hl),fun t _ ht => getD_in (by simpa using ht) (getD_replicate_false _ _)⟩
 have H := flow_any (Q := Q) hB hR0 (fun h1 h2 => hRt h1 h2) hs ht n _ us0 w.drew hc inv0 (hR0 _) (fun j _ hj => by rw [getD_replicate_false] at hj;cases hj)
 rw [h0,show n + (l.length - n) = l.toArray.size by simp;omega] at H
 exact H
end
end Go.Proofs.YtojcmcccahjphaaGreatDoor
/- A region that draws its order,whose first operations only read and whose last ones come in one forced order: the load of a whole row there. No condition. -/
namespace Go.Proofs.YtojcmcccahjphaaGreatDoor
open Go.RowKit
open Lib (hid)
end Go.Proofs.YtojcmcccahjphaaGreatDoor
/- XFlow's law with the frame made literal once. No condition. -/
namespace Go.Proofs.YtojcmcccahjphaaGreatDoor
open Go.RowKit
open Lib (hid)
section
variable {P : Program} {ops : Array Oper} {Q : Exit → Act → World → Prop}
def flowStepF (P : Program) (l : List Oper) (Q : Exit → Act → World → Prop) (F : (Nat → Value) → Act) (R : World → World → Prop) (Raw : Nat → Value → World → Prop) (w0 : World) (o : Oper) (i : Nat) : Prop :=
 ∀ (us : Nat → Value) (W : World) (K : Act → World → Prop),R w0 W → (∀ j,waitsB o j = true → Raw j (us j) W) →
  (∀ v W',(∀ W'',R W' W'' → Raw i v W'') → R W W' → K ((F us).put o.dst v) W') → wpList P l.toArray (Exit.then K Q) [o] (F us) W
def flowStepsF (P : Program) (l : List Oper) (Q : Exit → Act → World → Prop) (F : (Nat → Value) → Act) (R : World → World → Prop) (Raw : Nat → Value → World → Prop) (w0 : World) : List Oper → Nat → Prop
 | [],_ => True
 | o :: r,k => flowStepF P l Q F R Raw w0 o k ∧ flowStepsF P l Q F R Raw w0 r (k + 1)
theorem flowStepsF_of {l hd : List Oper} {F : (Nat → Value) → Act} {R : World → World → Prop} {Raw : Nat → Value → World → Prop} {a : Act} {w0 : World} (hF : ∀ us,flowAct us hd 0 a = F us) : ∀ {r : List Oper} {k : Nat},flowStepsF P l Q F R Raw w0 r k → flowSteps P l Q hd R Raw a w0 r k
 | [],_,_ => trivial
 | o :: r,k,⟨h1,h2⟩ => ⟨fun us W K h3 h4 h5 => by rw [hF];exact h1 us W K h3 h4 (fun v W' h6 h7 => by have := h5 v W' h6 h7;rwa [hF] at this),flowStepsF_of hF h2⟩
theorem wp_region_flowF {id : Nat} {a : Act} {w : World} {l : List Oper} (n : Nat) (F : (Nat → Value) → Act) (hF : ∀ us,flowAct us (l.take n) 0 a = F us) (hm : P.follows .mixedOrders = true) (hB : flowB l n = true) (R : World → World → Prop) (hR0 : ∀ w,R w w) (hRt : ∀ {x y z},R x y → R y z → R x z) (Raw : Nat → Value → World → Prop)
  (hs : flowStepsF P l Q F R Raw w.drew (l.take n) 0)
  (ht : ∀ us W,R w.drew W → (∀ j,j < n → Raw j (us j) W) → wpList P l.toArray Q (l.drop n) (F us) W) : (Code.region id l.toArray true).wp P Q a w :=
 wp_region_flow n hm hB R hR0 hRt Raw (flowStepsF_of hF hs) (fun us W h1 h2 => by rw [hF];exact ht us W h1 h2)
end
end Go.Proofs.YtojcmcccahjphaaGreatDoor
/- A region that draws its order,by the flow of its data,with one operation that changes old memory. No condition. -/
namespace Go.Proofs.YtojcmcccahjphaaGreatDoor
open Go.RowKit
open Lib (hid)
section
variable {P : Program} {ops : Array Oper} {Q : Exit → Act → World → Prop}
end
end Go.Proofs.YtojcmcccahjphaaGreatDoor
/- XFlowTwo's law,in which what some operations left need last only until operation L;the frame is made literal once. No condition. -/
namespace Go.Proofs.YtojcmcccahjphaaGreatDoor
open Go.RowKit
open Lib (hid)
section
variable {P : Program} {ops : Array Oper} {Q : Exit → Act → World → Prop}
end
end Go.Proofs.YtojcmcccahjphaaGreatDoor
