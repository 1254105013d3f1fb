/- A region that draws its order, whose operations leave alone what is there but whose callees may make memory: one walk of the order of the text. No condition. -/
import Derived.Test.YtojcmcccahjphaaGreatDoorM1
import Derived.BigQuiet
import Derived.Test.YtojcmcccahjphaaGreatDoorM5
set_option linter.unusedSimpArgs false
set_option linter.unusedVariables false
set_option maxHeartbeats 16000000
set_option maxRecDepth 100000
namespace Go.Proofs.YtojcmcccahjphaaGreatDoor
open Go.RowKit
open Lib (hid)
def ExtW (w : World) : Type := {W : World // Ext w W}
def ExtW.at_ {w : World} (X : ExtW w) : World := X.1
theorem ExtW.ext {w : World} (X : ExtW w) : Ext w X.at_ := X.2
instance (w : World) : Nonempty (ExtW w) := ⟨⟨w,Ext.refl w⟩⟩
theorem wp_region_ext {P : Program} {id : Nat} {Q : Exit → Act → World → Prop} {a : Act} {w : World} {l : List Oper} (hm : P.follows .mixedOrders = true) (hB : Region.lexB .any l.toArray = true)
  (h : wpQuiet P l.toArray (fun w' => ∃ X : ExtW w,w' = X.at_) (fun a' => ∀ w',(∃ X : ExtW w,w' = X.at_) → Q .normal a' w') l a) : (Code.region id l.toArray true).wp P Q a w :=
 wp_region_quiet (C := fun w' => ∃ X : ExtW w,w' = X.at_) hm hB ⟨⟨w.drew,(Ext.refl w).drew⟩,rfl⟩ (by simpa using h)
end Go.Proofs.YtojcmcccahjphaaGreatDoor
/- Package patch: numbers, IDs, names, types. Conditions: a type's kids lie in memory, at most one each. -/
set_option maxRecDepth 100000
set_option maxHeartbeats 16000000
namespace Go.Proofs.YtojcmcccahjphaaGreatDoor
open Go.RowKit
open Lib (hid)
attribute [local go_sem ↓] wp_at_zero wp_at_succ
structure TyN where
 k : Int
 d : Rid
deriving DecidableEq
def tyC (x : TyN) (s : Value) : List Value := [.int .i64 x.k,.int .i64 x.d.s,.int .i64 x.d.q,.int .i64 x.d.i,s]
def TyV (w : World) : List TyN → List Value → Prop
 | [],_ => False
 | [x],cs => ∃ (A : Option Addr) (c : Nat),cs = tyC x (.slice A 0 c) ∧ c ≤ 9223372036854775807
 | x :: y :: r,cs => ∃ (A : Option Addr) (c : Nat) (ds : List Value),cs = tyC x (.slice A 1 c) ∧ 1 ≤ c ∧ c ≤ 9223372036854775807 ∧ RdN w w.heap.size 5 A 1 ds ∧ TyV w (y :: r) ds
theorem TyV.ext {w w' : World} (hE : Ext w w') : ∀ {t : List TyN} {cs : List Value},TyV w t cs → TyV w' t cs
 | [],_,h => h
 | [x],_,h => h
 | x :: y :: r,_,⟨A,c,ds,h1,h2,h3,h4,h5⟩ => ⟨A,c,ds,h1,h2,h3,(h4.below hE (Nat.le_refl _)).more hE.size,TyV.ext hE h5⟩
theorem TyV.len {w : World} : ∀ {t : List TyN} {cs : List Value},TyV w t cs → cs.length = 5
 | [],_,h => h.elim
 | [x],_,⟨A,c,h1,_⟩ => by rw [h1];rfl
 | x :: y :: r,_,⟨A,c,ds,h1,_⟩ => by rw [h1];rfl
theorem TyV.one {w : World} : ∀ {t : List TyN} {cs : List Value},TyV w t cs → ∀ v ∈ cs,v.oneCell' = true
 | [],_,h => h.elim
 | [x],_,⟨A,c,h1,_⟩ => by
  rw [h1];intro v hv
  simp only [tyC,List.mem_cons,List.not_mem_nil,or_false] at hv
  rcases hv with rfl | rfl | rfl | rfl | rfl <;> rfl
 | x :: y :: r,_,⟨A,c,ds,h1,_⟩ => by
  rw [h1];intro v hv
  simp only [tyC,List.mem_cons,List.not_mem_nil,or_false] at hv
  rcases hv with rfl | rfl | rfl | rfl | rfl <;> rfl
theorem TyV.head {w : World} {x : TyN} {r : List TyN} {cs : List Value} (h : TyV w (x :: r) cs) : ∃ (A : Option Addr) (n c : Nat),cs = tyC x (.slice A n c) ∧ n ≤ c ∧ c ≤ 9223372036854775807 ∧ (n = 0 ∧ r = [] ∨ n = 1 ∧ r ≠ []) := by
 cases r with
 | nil => obtain ⟨A,c,h1,h2⟩ := h;exact ⟨A,0,c,h1,Nat.zero_le _,h2,Or.inl ⟨rfl,rfl⟩⟩
 | cons y r => obtain ⟨A,c,ds,h1,h2,h3,_⟩ := h;exact ⟨A,1,c,h1,h2,h3,Or.inr ⟨rfl,by simp⟩⟩
theorem wpList_load_row {P : Program} {ops : Array Oper} {rest : List Oper} {dst : Option Tmp} {x : Operand} {ty' : TypeId} {pos : String} {after : Array Edge} {guard : Option (Nat × Bool)} {a : Act} {w : World} {Q : Exit → Act → World → Prop} (ty : TypeId) (g off : Nat) (cs : List Value) (hr : w.rangeAt g off cs) {d : TypeDesc} (hu : P.underlying ty = some d) (hd : d.isRow = true) (hi : (P.info? ty).map (·.size) = some cs.length)
  (hw : Region.wanted { dst := dst,op := Op.load ty x,type := ty',pos := pos,after := after,guard := guard } (yielded ops a.tmps) = true) (hx : a.eval x = .pointer (some ⟨g,off,none⟩))
  (h : wpList P ops Q rest (a.put dst (.agg cs.toArray)) w) : wpList P ops Q ({ dst := dst,op := Op.load ty x,type := ty',pos := pos,after := after,guard := guard } :: rest) a w :=
 BigFrame.wpList_want hw fun _ hK => wp_load_mid ty x rfl g off hx cs d hr hu hd hi (hK _ _ h)
theorem run_idEq (neg : Bool) (s q i s' q' i' : Int) (ρ : Operand → Value) (x y : Operand) (r : TypeId) (o : Oper) (w : World) (ho : o.op = .binOp (if neg then .neq else .eql) 23 x y r) (hx : ρ x = .agg #[.int .i64 s,.int .i64 q,.int .i64 i]) (hy : ρ y = .agg #[.int .i64 s',.int .i64 q',.int .i64 i']) :
  (execOp ρ o).run Tryz.prog w = .ok (.value (.bool (neg != decide ((⟨s,q,i⟩ : Rid) = ⟨s',q',i'⟩)))) w := by
 have hq := id_equal ⟨s,q,i⟩ ⟨s',q',i'⟩ w
 dsimp only at hq
 have hg : Tryz.prog.eqGuardType Tryz.prog.depth 23 = false := by kernel_rfl
 have hm : Op.maxDepth = 10000 := rfl
 have hpr : Sem.run Tryz.prog program w = .ok Tryz.prog w := rfl
 generalize decide ((⟨s,q,i⟩ : Rid) = ⟨s',q',i'⟩) = d at *
 have ha : ∀ {α β : Type} (a : α) (w : World) (f : α → World → Result β),(Result.ok a w).andThen f = f a w := fun _ _ _ => rfl
 unfold execOp
 rw [ho]
 cases neg
 ·unfold eqGuard binOp Op.equal
  simp only [hx,hy,Bool.false_eq_true,if_false,Bool.not_true,Sem.run_bind,hpr,ha,hg,Bool.not_false,if_true,Sem.run_pure,hm,hq]
  cases d <;> rfl
 ·unfold eqGuard binOp Op.equal
  simp only [hx,hy,Bool.false_eq_true,if_false,Bool.not_true,Sem.run_bind,hpr,ha,hg,Bool.not_false,if_true,Sem.run_pure,hm,hq]
  cases d <;> rfl
theorem wpList_idEql {ops : Array Oper} {rest : List Oper} {dst : Option Tmp} {x y : Operand} {r ty : TypeId} {pos : String} {after : Array Edge} {guard : Option (Nat × Bool)} {a : Act} {w : World} {Q : Exit → Act → World → Prop}
  (s q i s' q' i' : Int) (b : Bool) (hb : b = (false != decide ((⟨s,q,i⟩ : Rid) = ⟨s',q',i'⟩)))
  (hw : Region.wanted { dst := dst,op := .binOp .eql 23 x y r,type := ty,pos := pos,after := after,guard := guard } (yielded ops a.tmps) = true)
  (hx : a.eval x = .agg #[.int .i64 s,.int .i64 q,.int .i64 i]) (hy : a.eval y = .agg #[.int .i64 s',.int .i64 q',.int .i64 i'])
  (h : wpList Tryz.prog ops Q rest (a.put dst (.bool b)) w) : wpList Tryz.prog ops Q ({ dst := dst,op := .binOp .eql 23 x y r,type := ty,pos := pos,after := after,guard := guard } :: rest) a w :=
 BigFrame.wpList_want hw fun _ hK => by
  unfold Oper.wp
  rw [run_idEq false s q i s' q' i' _ x y r _ w rfl hx hy,← hb]
  exact hK _ _ h
theorem wpList_idNeq {ops : Array Oper} {rest : List Oper} {dst : Option Tmp} {x y : Operand} {r ty : TypeId} {pos : String} {after : Array Edge} {guard : Option (Nat × Bool)} {a : Act} {w : World} {Q : Exit → Act → World → Prop}
  (s q i s' q' i' : Int) (b : Bool) (hb : b = (true != decide ((⟨s,q,i⟩ : Rid) = ⟨s',q',i'⟩)))
  (hw : Region.wanted { dst := dst,op := .binOp .neq 23 x y r,type := ty,pos := pos,after := after,guard := guard } (yielded ops a.tmps) = true)
  (hx : a.eval x = .agg #[.int .i64 s,.int .i64 q,.int .i64 i]) (hy : a.eval y = .agg #[.int .i64 s',.int .i64 q',.int .i64 i'])
  (h : wpList Tryz.prog ops Q rest (a.put dst (.bool b)) w) : wpList Tryz.prog ops Q ({ dst := dst,op := .binOp .neq 23 x y r,type := ty,pos := pos,after := after,guard := guard } :: rest) a w :=
 BigFrame.wpList_want hw fun _ hK => by
  unfold Oper.wp
  rw [run_idEq true s q i s' q' i' _ x y r _ w rfl hx hy,← hb]
  exact hK _ _ h
theorem quiet_idEq {C : World → Prop} {K : Act → Prop} {o : Oper} {a : Act} (neg : Bool) (x y : Operand) (r : TypeId) (ho : o.op = .binOp (if neg then .neq else .eql) 23 x y r)
  (s q i s' q' i' : Int) (hx : a.eval x = .agg #[.int .i64 s,.int .i64 q,.int .i64 i]) (hy : a.eval y = .agg #[.int .i64 s',.int .i64 q',.int .i64 i']) (b : Bool) (hb : b = (neg != decide ((⟨s,q,i⟩ : Rid) = ⟨s',q',i'⟩)))
  (hk : K (a.put o.dst (.bool b))) : o.quiet Tryz.prog a C K :=
 ⟨_,fun w _ => by
  unfold Oper.quietAt
  rw [run_idEq neg s q i s' q' i' _ x y r o w ho hx hy,← hb]
  exact ⟨rfl,rfl⟩,hk⟩
theorem ty_info : (Tryz.prog.info? 26).map (·.size) = some 5 := by kernel_rfl
theorem pwithin_any (n lo hi : Int) (w : World) : Calls Tryz.prog 11 #[.int .i64 n,.int .i64 lo,.int .i64 hi] w fun e w' => e = .returned (.bool (winB n lo hi)) ∧ w = w' := by
 unfold winB
 by_cases h : lo ≤ n
 ·have h1 : decide (lo ≤ n) = true := decide_eq_true h
  rw [h1,Bool.true_and]
  go_enter Tryz.func11,Tryz.ntmps11
  go_wp2_with fail
  go_ret
  exact ⟨rfl,rfl⟩
 ·have h1 : decide (lo ≤ n) = false := decide_eq_false h
  rw [h1,Bool.false_and]
  go_enter Tryz.func11,Tryz.ntmps11
  go_wp2_with fail
  go_ret
  exact ⟨rfl,rfl⟩
theorem pnumbered_any (s q : Int) (w : World) : Calls Tryz.prog 10 #[.int .i64 s,.int .i64 q] w fun e w' => e = .returned (.bool (rnumB s q)) ∧ w = w' := by
 unfold rnumB
 have H1 := hid (pwithin_any s 0 7 w)
 have H2 := hid (pwithin_any q 1 16 w)
 generalize winB s 0 7 = a at *
 generalize winB q 1 16 = b at *
 cases a
 ·rw [Bool.false_and]
  go_enter Tryz.func10,Tryz.ntmps10
  go_wp2_with (go_at_call 11;(with_reducible refine H1.out.mono ?_);rintro e w3 ⟨rfl,rfl⟩)
  go_ret
  exact ⟨rfl,rfl⟩
 ·rw [Bool.true_and]
  go_enter Tryz.func10,Tryz.ntmps10
  go_wp2_with (first
   | (go_at_call 11;(with_reducible refine H1.out.mono ?_);rintro e w3 ⟨rfl,rfl⟩)
   | (go_at_call 11;(with_reducible refine H2.out.mono ?_);rintro e w3 ⟨rfl,rfl⟩))
  go_ret
  exact ⟨rfl,rfl⟩
theorem pvalid_any (x : Rid) (w : World) : Calls Tryz.prog 22 #[.agg #[.int .i64 x.s,.int .i64 x.q,.int .i64 x.i]] w fun e w' => e = .returned (.bool (idB x)) ∧ Ext w w' := by
 have H1 : Hid (∀ W,Calls Tryz.prog 10 #[.int .i64 x.s,.int .i64 x.q] W fun e w' => e = .returned (.bool (rnumB x.s x.q)) ∧ W = w') := hid (fun W => pnumbered_any x.s x.q W)
 have H2 : Hid (∀ W,Calls Tryz.prog 11 #[.int .i64 x.i,.int .i64 0,.int .i64 31] W fun e w' => e = .returned (.bool (winB x.i 0 31)) ∧ W = w') := hid (fun W => pwithin_any x.i 0 31 W)
 unfold idB
 generalize rnumB x.s x.q = a at *
 generalize winB x.i 0 31 = b at *
 obtain ⟨s,q,i⟩ := x
 dsimp only at H1 H2 ⊢
 have HE : Hid (∀ t,Ext w (w.alloc (.cells #[.int .i64 s,.int .i64 q,.int .i64 i] t))) := hid (fun t => (Ext.refl w).alloc _)
 cases a
 ·rw [Bool.false_and]
  go_enter Tryz.func22,Tryz.ntmps22
  go_wp2_with (go_at_call 10;(with_reducible refine (H1.out _).mono ?_);rintro e w3 ⟨rfl,rfl⟩)
  go_ret
  exact ⟨rfl,HE.out _⟩
 ·rw [Bool.true_and]
  go_enter Tryz.func22,Tryz.ntmps22
  go_wp2_with (first
   | (go_at_call 10;(with_reducible refine (H1.out _).mono ?_);rintro e w3 ⟨rfl,rfl⟩)
   | (go_at_call 11;(with_reducible refine (H2.out _).mono ?_);rintro e w3 ⟨rfl,rfl⟩))
  go_ret
  exact ⟨rfl,HE.out _⟩
def nameB (s : ByteArray) : Bool := winB (s.size : Int) 1 16
theorem pname_any (s : ByteArray) (w : World) : Calls Tryz.prog 23 #[.string s] w fun e w' => e = .returned (.bool (nameB s)) ∧ w = w' := by
 have H1 : Hid (∀ W,Calls Tryz.prog 11 #[.int .i64 (s.size : Int),.int .i64 1,.int .i64 16] W fun e w' => e = .returned (.bool (nameB s)) ∧ W = w') := hid (fun W => pwithin_any _ 1 16 W)
 go_enter Tryz.func23,Tryz.ntmps23
 go_wp2_with (go_at_call 11;(with_reducible refine (H1.out _).mono ?_);rintro e w3 ⟨rfl,rfl⟩)
 go_ret
 exact ⟨rfl,rfl⟩
theorem ty_cell {W : World} {g : Nat} {ty : TypeId} {a b c d e : Value} (h : Blk W g ty [a,b,c,d,e]) : W.cell? ⟨g,0,none⟩ = some a ∧ W.cell? ⟨g,1,none⟩ = some b ∧ W.cell? ⟨g,2,none⟩ = some c ∧ W.cell? ⟨g,3,none⟩ = some d ∧ W.cell? ⟨g,4,none⟩ = some e := ⟨h.cell 0,h.cell 1,h.cell 2,h.cell 3,h.cell 4⟩
def zeroB (t : List TyN) : Bool := match t with
 | [x] => decide (x.k = 0) && decide (x.d = ⟨0,0,0⟩)
 | _ => false
theorem zero_any (t : List TyN) (cs : List Value) (w : World) (ht : TyV w t cs) : Calls Tryz.prog 25 #[.agg cs.toArray] w fun e w' => e = .returned (.bool (zeroB t)) ∧ Ext w w' := by
 cases t with
 | nil => exact ht.elim
 | cons x r =>
  obtain ⟨A,n,c,rfl,hnc,hc,hn⟩ := ht.head
  obtain ⟨k,s,q,i⟩ := x
  obtain ⟨db,hdb⟩ : ∃ b,b = decide ((⟨s,q,i⟩ : Rid) = ⟨0,0,0⟩) := ⟨_,rfl⟩
  have HQ : Hid (db = (false != decide ((⟨s,q,i⟩ : Rid) = ⟨0,0,0⟩))) := hid (by rw [hdb];simp)
  have HZ : Hid (zeroB (⟨k,s,q,i⟩ :: r) = (decide (k = 0) && db && decide (n = 0))) := hid (by
   rw [hdb]
   rcases hn with ⟨rfl,rfl⟩ | ⟨rfl,hr⟩
   ·simp [zeroB]
   ·cases r with
    | nil => exact absurd rfl hr
    | cons y r => simp [zeroB])
  rw [HZ.out]
  clear ht hdb hn HZ
  unfold tyC
  dsimp only
  have HE : Hid (∀ ty,Ext w (w.alloc (.cells #[.int .i64 k,.int .i64 s,.int .i64 q,.int .i64 i,.slice A n c] ty))) := hid (fun ty => (Ext.refl w).alloc _)
  by_cases hk : k = 0
  ·have hk1 : (k == (0 : Int)) = true := beq_iff_eq.2 hk
   rw [decide_eq_true hk,Bool.true_and]
   clear hk
   cases db
   ·go_enter Tryz.func25,Tryz.ntmps25
    go_wp2_with ((with_reducible refine wpList_idEql s q i 0 0 0 _ HQ.out ?_ ?_ ?_ ?_);kernel_rfl;rfl;rfl)
    go_ret
    exact ⟨rfl,HE.out _⟩
   ·by_cases h0 : n = 0
    ·have h01 : (((n : Nat) : Int) == 0) = true := by rw [beq_iff_eq];omega
     rw [decide_eq_true h0]
     subst h0
     go_enter Tryz.func25,Tryz.ntmps25
     go_wp2_with ((with_reducible refine wpList_idEql s q i 0 0 0 _ HQ.out ?_ ?_ ?_ ?_);kernel_rfl;rfl;rfl)
     go_ret
     exact ⟨rfl,HE.out _⟩
    ·have h01 : (((n : Nat) : Int) == 0) = false := by rw [beq_eq_false_iff_ne];omega
     rw [decide_eq_false h0]
     clear h0
     go_enter Tryz.func25,Tryz.ntmps25
     go_wp2_with ((with_reducible refine wpList_idEql s q i 0 0 0 _ HQ.out ?_ ?_ ?_ ?_);kernel_rfl;rfl;rfl)
     go_ret
     exact ⟨rfl,HE.out _⟩
  ·have hk1 : (k == (0 : Int)) = false := beq_eq_false_iff_ne.2 hk
   rw [decide_eq_false hk,Bool.false_and,Bool.false_and]
   clear hk
   go_enter Tryz.func25,Tryz.ntmps25
   go_wp2_with ((with_reducible refine wpList_idEql s q i 0 0 0 _ HQ.out ?_ ?_ ?_ ?_);kernel_rfl;rfl;rfl)
   go_ret
   exact ⟨rfl,HE.out _⟩
def formedB : List TyN → Nat → Bool
 | [],_ => false
 | _ :: _,0 => false
 | x :: r,d + 1 => if x.k = 0 ∨ x.k = 1 then decide (x.d = ⟨0,0,0⟩) && r.isEmpty else if x.k = 2 then decide (x.d = ⟨0,0,0⟩) && !r.isEmpty && formedB r d else decide (x.k = 3) && idB x.d && r.isEmpty
theorem formedB_succ (x : TyN) (r : List TyN) (d : Nat) : formedB (x :: r) (d + 1) = if x.k = 0 ∨ x.k = 1 then decide (x.d = ⟨0,0,0⟩) && r.isEmpty else if x.k = 2 then decide (x.d = ⟨0,0,0⟩) && !r.isEmpty && formedB r d else decide (x.k = 3) && idB x.d && r.isEmpty := rfl
theorem wrapp {x : Int} (h0 : -9223372036854775808 ≤ x) (h1 : x ≤ 9223372036854775807) : IntKind.i64.wrap x = x := by
 unfold IntKind.wrap
 simp [IntKind.bits,IntKind.signed]
 omega
theorem formed_any : ∀ (t : List TyN) (d : Nat) (cs : List Value) (w : World),TyV w t cs → d ≤ 1000 → Calls Tryz.prog 24 #[.agg cs.toArray,.int .i64 (d : Int)] w fun e w' => e = .returned (.bool (formedB t d)) ∧ Ext w w' := by
 intro t
 induction t with
 | nil => exact fun d cs w ht => ht.elim
 | cons x r ih =>
  intro d cs w ht hd
  have hty := ht
  obtain ⟨A,n,c,rfl,hnc,hc,hn⟩ := ht.head
  cases d with
  | zero =>
   rw [show formedB (x :: r) 0 = false by rfl]
   have HE : Hid (∀ ty o,Ext w (w.alloc (.cells o ty))) := hid (fun ty o => (Ext.refl w).alloc _)
   unfold tyC
   clear ht hty ih
   go_enter Tryz.func24,Tryz.ntmps24
   go_wp2_with fail
   go_ret
   exact ⟨rfl,HE.out _ _⟩
  | succ d =>
   obtain ⟨k,s,q,i⟩ := x
   obtain ⟨e,he⟩ : ∃ e : Int,e = ((d + 1 : Nat) : Int) := ⟨_,rfl⟩
   rw [← he]
   have he0 : (e == (0 : Int)) = false := by rw [beq_eq_false_iff_ne];omega
   have hsub : e - 1 = (d : Int) := by omega
   have hwi : IntKind.i64.wrap (d : Int) = (d : Int) := wrapp (by omega) (by omega)
   obtain ⟨db,hdb⟩ : ∃ b,b = decide ((⟨s,q,i⟩ : Rid) = ⟨0,0,0⟩) := ⟨_,rfl⟩
   have HQ : Hid (db = (false != decide ((⟨s,q,i⟩ : Rid) = ⟨0,0,0⟩))) := hid (by rw [hdb];simp)
   obtain ⟨vb,hvb⟩ : ∃ b,b = idB ⟨s,q,i⟩ := ⟨_,rfl⟩
   have HV : Hid (∀ W,Calls Tryz.prog 22 #[.agg #[.int .i64 s,.int .i64 q,.int .i64 i]] W fun e w' => e = .returned (.bool vb) ∧ Ext W w') := hid (fun W => by rw [hvb];exact pvalid_any ⟨s,q,i⟩ W)
   have HF : Hid (formedB (⟨k,s,q,i⟩ :: r) (d + 1) = if k = 0 ∨ k = 1 then (db && decide (n = 0)) else if k = 2 then (db && decide (n = 1) && formedB r d) else (decide (k = 3) && vb && decide (n = 0))) := hid (by
    have h1 : r.isEmpty = decide (n = 0) := by
     rcases hn with ⟨rfl,rfl⟩ | ⟨rfl,hr⟩
     ·rfl
     ·cases r with
      | nil => exact absurd rfl hr
      | cons y r => rfl
    have h2 : (!r.isEmpty) = decide (n = 1) := by
     rcases hn with ⟨rfl,rfl⟩ | ⟨rfl,hr⟩
     ·rfl
     ·cases r with
      | nil => exact absurd rfl hr
      | cons y r => rfl
    rw [hdb,hvb]
    rw [formedB_succ]
    dsimp only
    rw [h1]
    split
    ·rfl
    ·split
     ·rw [← h2,h1]
     ·rfl)
   rw [HF.out]
   have HN : Hid (n = 0 ∨ n = 1) := hid (by rcases hn with ⟨h,_⟩ | ⟨h,_⟩ <;> omega)
   obtain ⟨w1,hw1⟩ : ∃ x,x = w.alloc (.cells #[.int .i64 k,.int .i64 s,.int .i64 q,.int .i64 i,.slice A n c] 26) := ⟨_,rfl⟩
   have E1 : Hid (Ext w w1) := hid (by rw [hw1];exact (Ext.refl w).alloc _)
   have B1 : Hid (Blk w1 w.heap.size 26 [.int .i64 k,.int .i64 s,.int .i64 q,.int .i64 i,.slice A n c]) := hid (by rw [hw1];exact Blk.fresh' _ _ _ _ _ rfl rfl)
   have HK : Hid (n = 1 → ∃ (b o : Nat) (ds : List Value) (fb : Bool),A = some ⟨b,o,none⟩ ∧ ds.length = 5 ∧ fb = formedB r d ∧ (∀ W,Ext w W → W.rangeAt b o ds) ∧ (∀ W,Ext w W → Calls Tryz.prog 24 #[.agg ds.toArray,.int .i64 (d : Int)] W fun e w' => e = .returned (.bool fb) ∧ Ext W w')) := hid (fun h1 => by
    subst h1
    cases r with
    | nil => obtain ⟨A',c',h,_⟩ := hty;simp [tyC] at h
    | cons y r =>
     obtain ⟨A',c',ds,h,_,_,h4,h5⟩ := hty
     obtain ⟨rfl,rfl⟩ : A' = A ∧ c' = c := by simp [tyC] at h;exact ⟨h.1.symm,h.2.symm⟩
     obtain ⟨b,o,hA,hb,hrg⟩ := h4.2 (by decide)
     exact ⟨b,o,ds,_,hA,h5.len,rfl,fun W hW j u hu => (hW.cell (p := ⟨b,o + j,none⟩) hb).trans (hrg j u hu),fun W hW => ih d ds W (h5.ext hW) (by omega)⟩)
   clear ht hty ih hdb hvb hn HF he hd
   unfold tyC
   dsimp only
   by_cases hk0 : k = 0
   ·subst hk0
    rw [if_pos (Or.inl rfl)]
    cases db
    ·rw [Bool.false_and]
     go_enter Tryz.func24,Tryz.ntmps24
     go_upto_region 1 with fail
     change Code.wp _ _ _ _ (w.alloc (.cells #[.int .i64 0,.int .i64 s,.int .i64 q,.int .i64 i,.slice A n c] 26))
     rw [← hw1]
     clear hw1
     obtain ⟨c0,c1,c2,c3,c4⟩ := ty_cell B1.out
     go_wp2_with (first | ((with_reducible refine wpList_idEql s q i 0 0 0 _ HQ.out ?_ ?_ ?_ ?_);kernel_rfl;rfl;rfl) | fail)
     go_ret
     exact ⟨rfl,E1.out⟩
    ·rw [Bool.true_and]
     rcases HN.out with rfl | rfl
     ·rw [show decide ((0 : Nat) = 0) = true by rfl]
      go_enter Tryz.func24,Tryz.ntmps24
      go_upto_region 1 with fail
      change Code.wp _ _ _ _ (w.alloc (.cells #[.int .i64 0,.int .i64 s,.int .i64 q,.int .i64 i,.slice A 0 c] 26))
      rw [← hw1]
      clear hw1
      obtain ⟨c0,c1,c2,c3,c4⟩ := ty_cell B1.out
      go_wp2_with (first | ((with_reducible refine wpList_idEql s q i 0 0 0 _ HQ.out ?_ ?_ ?_ ?_);kernel_rfl;rfl;rfl) | fail)
      go_ret
      exact ⟨rfl,E1.out⟩
     ·rw [show decide ((1 : Nat) = 0) = false by rfl]
      go_enter Tryz.func24,Tryz.ntmps24
      go_upto_region 1 with fail
      change Code.wp _ _ _ _ (w.alloc (.cells #[.int .i64 0,.int .i64 s,.int .i64 q,.int .i64 i,.slice A 1 c] 26))
      rw [← hw1]
      clear hw1
      obtain ⟨c0,c1,c2,c3,c4⟩ := ty_cell B1.out
      go_wp2_with (first | ((with_reducible refine wpList_idEql s q i 0 0 0 _ HQ.out ?_ ?_ ?_ ?_);kernel_rfl;rfl;rfl) | fail)
      go_ret
      exact ⟨rfl,E1.out⟩
   by_cases hk1 : k = 1
   ·subst hk1
    rw [if_pos (Or.inr rfl)]
    cases db
    ·rw [Bool.false_and]
     go_enter Tryz.func24,Tryz.ntmps24
     go_upto_region 1 with fail
     change Code.wp _ _ _ _ (w.alloc (.cells #[.int .i64 1,.int .i64 s,.int .i64 q,.int .i64 i,.slice A n c] 26))
     rw [← hw1]
     clear hw1
     obtain ⟨c0,c1,c2,c3,c4⟩ := ty_cell B1.out
     go_wp2_with (first | ((with_reducible refine wpList_idEql s q i 0 0 0 _ HQ.out ?_ ?_ ?_ ?_);kernel_rfl;rfl;rfl) | fail)
     go_ret
     exact ⟨rfl,E1.out⟩
    ·rw [Bool.true_and]
     rcases HN.out with rfl | rfl
     ·rw [show decide ((0 : Nat) = 0) = true by rfl]
      go_enter Tryz.func24,Tryz.ntmps24
      go_upto_region 1 with fail
      change Code.wp _ _ _ _ (w.alloc (.cells #[.int .i64 1,.int .i64 s,.int .i64 q,.int .i64 i,.slice A 0 c] 26))
      rw [← hw1]
      clear hw1
      obtain ⟨c0,c1,c2,c3,c4⟩ := ty_cell B1.out
      go_wp2_with (first | ((with_reducible refine wpList_idEql s q i 0 0 0 _ HQ.out ?_ ?_ ?_ ?_);kernel_rfl;rfl;rfl) | fail)
      go_ret
      exact ⟨rfl,E1.out⟩
     ·rw [show decide ((1 : Nat) = 0) = false by rfl]
      go_enter Tryz.func24,Tryz.ntmps24
      go_upto_region 1 with fail
      change Code.wp _ _ _ _ (w.alloc (.cells #[.int .i64 1,.int .i64 s,.int .i64 q,.int .i64 i,.slice A 1 c] 26))
      rw [← hw1]
      clear hw1
      obtain ⟨c0,c1,c2,c3,c4⟩ := ty_cell B1.out
      go_wp2_with (first | ((with_reducible refine wpList_idEql s q i 0 0 0 _ HQ.out ?_ ?_ ?_ ?_);kernel_rfl;rfl;rfl) | fail)
      go_ret
      exact ⟨rfl,E1.out⟩
   rw [if_neg (by omega)]
   by_cases hk2 : k = 2
   ·subst hk2
    rw [if_pos rfl]
    cases db
    ·rw [Bool.false_and,Bool.false_and]
     go_enter Tryz.func24,Tryz.ntmps24
     go_upto_region 1 with fail
     change Code.wp _ _ _ _ (w.alloc (.cells #[.int .i64 2,.int .i64 s,.int .i64 q,.int .i64 i,.slice A n c] 26))
     rw [← hw1]
     clear hw1
     obtain ⟨c0,c1,c2,c3,c4⟩ := ty_cell B1.out
     go_wp2_with (first | ((with_reducible refine wpList_idEql s q i 0 0 0 _ HQ.out ?_ ?_ ?_ ?_);kernel_rfl;rfl;rfl) | fail)
     go_ret
     exact ⟨rfl,E1.out⟩
    ·rw [Bool.true_and]
     rcases HN.out with rfl | h1
     ·rw [show decide ((0 : Nat) = 1) = false by rfl,Bool.false_and]
      go_enter Tryz.func24,Tryz.ntmps24
      go_upto_region 1 with fail
      change Code.wp _ _ _ _ (w.alloc (.cells #[.int .i64 2,.int .i64 s,.int .i64 q,.int .i64 i,.slice A 0 c] 26))
      rw [← hw1]
      clear hw1
      obtain ⟨c0,c1,c2,c3,c4⟩ := ty_cell B1.out
      go_wp2_with (first | ((with_reducible refine wpList_idEql s q i 0 0 0 _ HQ.out ?_ ?_ ?_ ?_);kernel_rfl;rfl;rfl) | fail)
      go_ret
      exact ⟨rfl,E1.out⟩
     ·obtain ⟨b,o,ds,fb,rfl,hl,hfb,hrg,hcl⟩ := HK.out h1
      subst h1
      rw [show decide ((1 : Nat) = 1) = true by rfl,Bool.true_and,← hfb]
      have HL := hid hl;have HRG := hid (hrg w1 E1.out);have HCL := hid (hcl w1 E1.out)
      clear hl hfb hrg hcl
      go_enter Tryz.func24,Tryz.ntmps24
      go_upto_region 1 with fail
      change Code.wp _ _ _ _ (w.alloc (.cells #[.int .i64 2,.int .i64 s,.int .i64 q,.int .i64 i,.slice (some ⟨b,o,none⟩) 1 c] 26))
      rw [← hw1]
      clear hw1
      obtain ⟨c0,c1,c2,c3,c4⟩ := ty_cell B1.out
      go_wp2_with (first | ((with_reducible refine wpList_idEql s q i 0 0 0 _ HQ.out ?_ ?_ ?_ ?_);kernel_rfl;rfl;rfl) | ((with_reducible refine wpList_load_row 26 b o ds HRG.out Tryz.underlying26 rfl (ty_info.trans (congrArg some HL.out.symm)) ?_ ?_ ?_);kernel_rfl;rfl) | (go_at_call 24;(with_reducible refine HCL.out.mono ?_);rintro e w3 ⟨rfl,hE3⟩;have E3 : Hid (Ext w w3) := hid (E1.out.next hE3);clear hE3))
      go_ret
      exact ⟨rfl,E3.out⟩
   rw [if_neg hk2]
   have hb0 : (k == (0 : Int)) = false := beq_eq_false_iff_ne.2 hk0
   have hb1 : (k == (1 : Int)) = false := beq_eq_false_iff_ne.2 hk1
   have hb2 : (k == (2 : Int)) = false := beq_eq_false_iff_ne.2 hk2
   clear hk0 hk1 hk2
   by_cases hk3 : k = 3
   ·have hb3 : (k == (3 : Int)) = true := beq_iff_eq.2 hk3
    rw [decide_eq_true hk3,Bool.true_and]
    clear hk3
    cases vb
    ·rw [Bool.false_and]
     go_enter Tryz.func24,Tryz.ntmps24
     go_upto_region 1 with fail
     change Code.wp _ _ _ _ (w.alloc (.cells #[.int .i64 k,.int .i64 s,.int .i64 q,.int .i64 i,.slice A n c] 26))
     rw [← hw1]
     clear hw1
     obtain ⟨c0,c1,c2,c3,c4⟩ := ty_cell B1.out
     go_wp2_with (first | ((with_reducible refine wpList_idEql s q i 0 0 0 _ HQ.out ?_ ?_ ?_ ?_);kernel_rfl;rfl;rfl) | (go_at_call 22;(with_reducible refine (HV.out w1).mono ?_);rintro e w3 ⟨rfl,hE3⟩;have E3 : Hid (Ext w w3) := hid (E1.out.next hE3);have BE3 := hid (B1.out.ext hE3);obtain ⟨d0,d1,d2,d3,d4⟩ := ty_cell BE3.out;clear hE3))
     go_ret
     exact ⟨rfl,E3.out⟩
    ·rw [Bool.true_and]
     rcases HN.out with rfl | rfl
     ·rw [show decide ((0 : Nat) = 0) = true by rfl]
      go_enter Tryz.func24,Tryz.ntmps24
      go_upto_region 1 with fail
      change Code.wp _ _ _ _ (w.alloc (.cells #[.int .i64 k,.int .i64 s,.int .i64 q,.int .i64 i,.slice A 0 c] 26))
      rw [← hw1]
      clear hw1
      obtain ⟨c0,c1,c2,c3,c4⟩ := ty_cell B1.out
      go_wp2_with (first | ((with_reducible refine wpList_idEql s q i 0 0 0 _ HQ.out ?_ ?_ ?_ ?_);kernel_rfl;rfl;rfl) | (go_at_call 22;(with_reducible refine (HV.out w1).mono ?_);rintro e w3 ⟨rfl,hE3⟩;have E3 : Hid (Ext w w3) := hid (E1.out.next hE3);have BE3 := hid (B1.out.ext hE3);obtain ⟨d0,d1,d2,d3,d4⟩ := ty_cell BE3.out;clear hE3))
      go_ret
      exact ⟨rfl,E3.out⟩
     ·rw [show decide ((1 : Nat) = 0) = false by rfl]
      go_enter Tryz.func24,Tryz.ntmps24
      go_upto_region 1 with fail
      change Code.wp _ _ _ _ (w.alloc (.cells #[.int .i64 k,.int .i64 s,.int .i64 q,.int .i64 i,.slice A 1 c] 26))
      rw [← hw1]
      clear hw1
      obtain ⟨c0,c1,c2,c3,c4⟩ := ty_cell B1.out
      go_wp2_with (first | ((with_reducible refine wpList_idEql s q i 0 0 0 _ HQ.out ?_ ?_ ?_ ?_);kernel_rfl;rfl;rfl) | (go_at_call 22;(with_reducible refine (HV.out w1).mono ?_);rintro e w3 ⟨rfl,hE3⟩;have E3 : Hid (Ext w w3) := hid (E1.out.next hE3);have BE3 := hid (B1.out.ext hE3);obtain ⟨d0,d1,d2,d3,d4⟩ := ty_cell BE3.out;clear hE3))
      go_ret
      exact ⟨rfl,E3.out⟩
   ·have hb3 : (k == (3 : Int)) = false := beq_eq_false_iff_ne.2 hk3
    rw [decide_eq_false hk3,Bool.false_and,Bool.false_and]
    clear hk3
    go_enter Tryz.func24,Tryz.ntmps24
    go_upto_region 1 with fail
    change Code.wp _ _ _ _ (w.alloc (.cells #[.int .i64 k,.int .i64 s,.int .i64 q,.int .i64 i,.slice A n c] 26))
    rw [← hw1]
    clear hw1
    obtain ⟨c0,c1,c2,c3,c4⟩ := ty_cell B1.out
    go_wp2_with (first | ((with_reducible refine wpList_idEql s q i 0 0 0 _ HQ.out ?_ ?_ ?_ ?_);kernel_rfl;rfl;rfl) | fail)
    go_ret
    exact ⟨rfl,E1.out⟩
end Go.Proofs.YtojcmcccahjphaaGreatDoor
