/- Operations and patches whose rows lie apart from some blocks. Conditions: none. -/
import Derived.Test.YtojcmcccahjphaaGreatDoorM21
import Derived.Test.YtojcmcccahjphaaGreatDoorM26
import Derived.Test.YtojcmcccahjphaaGreatDoorM19
import Derived.Test.YtojcmcccahjphaaGreatDoorM22
import Derived.Test.YtojcmcccahjphaaGreatDoorM7
import Derived.Test.YtojcmcccahjphaaGreatDoorM12
set_option linter.unusedSimpArgs false
set_option linter.unusedVariables false
set_option maxHeartbeats 16000000
set_option maxRecDepth 100000
set_option maxRecDepth 100000
set_option maxHeartbeats 16000000
namespace Go.Proofs.YtojcmcccahjphaaGreatDoor
open Go.RowKit
open Lib (hid)
structure OpR2 (p : Nat → Prop) (w : World) (x : OpA) (t nd : List Value) (A : Option Addr) (n c : Nat) : Prop where
 ty : TyP p w x.ty t
 nod : NodP p w x.node nd
 txt : RdP p w 1 A n (x.texts.map Value.string)
 tle : n ≤ c
 tcap : c ≤ 9223372036854775807
 tfew : n ≤ 1000000
def OpP (p : Nat → Prop) (w : World) (x : OpA) (cs : List Value) : Prop := ∃ t nd A n c,cs = opC x t nd (.slice A n c) ∧ OpR2 p w x t nd A n c
theorem OpP.keep {p : Nat → Prop} {w w' : World} (hs : w.heap.size ≤ w'.heap.size) (hk : ∀ b,p b → b < w.heap.size → w'.heap[b]? = w.heap[b]?) {x : OpA} {cs : List Value} (h : OpP p w x cs) : OpP p w' x cs := by
 obtain ⟨t,nd,A,n,c,h1,h2⟩ := h
 exact ⟨t,nd,A,n,c,h1,h2.ty.keep hs hk,h2.nod.keep hs hk,h2.txt.keep hs hk,h2.tle,h2.tcap,h2.tfew⟩
theorem OpP.opV {p : Nat → Prop} {w : World} {x : OpA} {cs : List Value} (h : OpP p w x cs) : OpV w x cs := by
 obtain ⟨t,nd,A,n,c,h1,h2⟩ := h
 exact ⟨t,nd,A,n,c,h1,h2.ty.tyV,h2.nod.nodV,⟨by have := h2.txt.1;simpa using this,h2.txt.rdN.2⟩,h2.tle,h2.tcap,h2.tfew⟩
theorem RdP.mono {p q : Nat → Prop} {w : World} (hp : ∀ b,b < w.heap.size → p b → q b) {size n : Nat} {A : Option Addr} {xs : List Value} (h : RdP p w size A n xs) : RdP q w size A n xs :=
 ⟨h.1,fun hn => by obtain ⟨b,o,h1,h2,h3,h4⟩ := h.2 hn;exact ⟨b,o,h1,hp b h3 h2,h3,h4⟩⟩
theorem NodP.mono {p q : Nat → Prop} {w : World} (hp : ∀ b,b < w.heap.size → p b → q b) {x : NodA} {cs : List Value} (h : NodP p w x cs) : NodP q w x cs := by
 obtain ⟨t,A,n,c,B,m,d,h1,h2⟩ := h
 exact ⟨t,A,n,c,B,m,d,h1,h2.ty.mono hp,h2.kids.mono hp,h2.kle,h2.kcap,h2.kfew,h2.nms.mono hp,h2.nle,h2.ncap,h2.nfew⟩
theorem OpP.mono {p q : Nat → Prop} {w : World} (hp : ∀ b,b < w.heap.size → p b → q b) {x : OpA} {cs : List Value} (h : OpP p w x cs) : OpP q w x cs := by
 obtain ⟨t,nd,A,n,c,h1,h2⟩ := h
 exact ⟨t,nd,A,n,c,h1,h2.ty.mono hp,h2.nod.mono hp,h2.txt.mono hp,h2.tle,h2.tcap,h2.tfew⟩
structure PatR (p : Nat → Prop) (w : World) (x : PatA) (X : List OX) (A : Option Addr) (n c : Nat) (B : Option Addr) (m d : Nat) : Prop where
 needs : RdP p w 2 A n (refsC x.needs)
 nle : n ≤ c
 ncap : c ≤ 9223372036854775807
 nfew : n ≤ 1000000
 ops : RdP p w 28 B m (oxsC X)
 each : ∀ y ∈ X,OpP p w y.o y.cs
 same : X.map (·.o) = x.ops
 ole : m ≤ d
 ocap : d ≤ 9223372036854775807
 ofew : m ≤ 1000000
def PatP (p : Nat → Prop) (w : World) (x : PatA) (cs : List Value) : Prop := ∃ X A n c B m d,cs = patCl x (.slice A n c) (.slice B m d) ∧ PatR p w x X A n c B m d
theorem PatR.patS {p : Nat → Prop} {w : World} {x : PatA} {X : List OX} {A : Option Addr} {n c : Nat} {B : Option Addr} {m d : Nat} (h : PatR p w x X A n c B m d) : PatS w x X A n c B m d :=
 ⟨h.needs.rdN,h.nle,h.ncap,h.nfew,h.ops.rdN,fun y hy => (h.each y hy).opV,h.same,h.ole,h.ocap,h.ofew⟩
theorem PatP.patV {p : Nat → Prop} {w : World} {x : PatA} {cs : List Value} (h : PatP p w x cs) : PatV w x cs := by
 obtain ⟨X,A,n,c,B,m,d,h1,h2⟩ := h
 exact ⟨X,A,n,c,B,m,d,h1,h2.patS⟩
theorem PatR.keep {p : Nat → Prop} {w w' : World} (hs : w.heap.size ≤ w'.heap.size) (hk : ∀ b,p b → b < w.heap.size → w'.heap[b]? = w.heap[b]?) {x : PatA} {X : List OX} {A : Option Addr} {n c : Nat} {B : Option Addr} {m d : Nat} (h : PatR p w x X A n c B m d) : PatR p w' x X A n c B m d :=
 ⟨h.needs.keep hs hk,h.nle,h.ncap,h.nfew,h.ops.keep hs hk,fun y hy => (h.each y hy).keep hs hk,h.same,h.ole,h.ocap,h.ofew⟩
theorem PatP.keep {p : Nat → Prop} {w w' : World} (hs : w.heap.size ≤ w'.heap.size) (hk : ∀ b,p b → b < w.heap.size → w'.heap[b]? = w.heap[b]?) {x : PatA} {cs : List Value} (h : PatP p w x cs) : PatP p w' x cs := by
 obtain ⟨X,A,n,c,B,m,d,h1,h2⟩ := h
 exact ⟨X,A,n,c,B,m,d,h1,h2.keep hs hk⟩
theorem PatR.mono {p q : Nat → Prop} {w : World} (hp : ∀ b,b < w.heap.size → p b → q b) {x : PatA} {X : List OX} {A : Option Addr} {n c : Nat} {B : Option Addr} {m d : Nat} (h : PatR p w x X A n c B m d) : PatR q w x X A n c B m d :=
 ⟨h.needs.mono hp,h.nle,h.ncap,h.nfew,h.ops.mono hp,fun y hy => (h.each y hy).mono hp,h.same,h.ole,h.ocap,h.ofew⟩
theorem PatP.mono {p q : Nat → Prop} {w : World} (hp : ∀ b,b < w.heap.size → p b → q b) {x : PatA} {cs : List Value} (h : PatP p w x cs) : PatP q w x cs := by
 obtain ⟨X,A,n,c,B,m,d,h1,h2⟩ := h
 exact ⟨X,A,n,c,B,m,d,h1,h2.mono hp⟩
end Go.Proofs.YtojcmcccahjphaaGreatDoor
/- Package patch: Encode; Decode by what its reader finds. Conditions: PatV, PatW; Valid's contract. -/
set_option maxRecDepth 100000
set_option maxHeartbeats 16000000
namespace Go.Proofs.YtojcmcccahjphaaGreatDoor
open Go.RowKit
open Lib (hid)
attribute [local go_sem ↓] wp_at_zero wp_at_succ
def encE' (V : Int) (p : PatA) : Int := if V = 0 then (if 1200 < p.sl.size then 4 else 0) else V
theorem pEncode_of (p : PatA) (V : Int) (cs : List Value) (w : World) (hp : PatV w p cs) (hw : PatW p) (hV : ∀ W,Ext w W → Calls Tryz.prog 5 #[.agg cs.toArray] W fun e w' => e = .returned (.int .i64 V) ∧ Ext W w') :
  Calls Tryz.prog 16 #[.agg cs.toArray] w fun e w' => (∃ A n c,e = .returned (.tuple #[.slice A n c,.int .i64 (encE' V p)]) ∧ (encE' V p = 0 → n = (encP p).length ∧ Rd w' w'.heap.size A n (u8s (encP p)) ∧ n ≤ c ∧ c ≤ 9223372036854775807) ∧ (encE' V p ≠ 0 → A = none ∧ n = 0 ∧ c = 0)) ∧ Ext w w' := by
 have HV := hid hV
 have HEN : Hid (∀ W,Ext w W → Calls Tryz.prog 30 #[.agg cs.toArray] W fun e w' => (∃ A' n' c',e = .returned (.slice A' n' c') ∧ n' = (encP p).length ∧ Rd w' w'.heap.size A' n' (u8s (encP p)) ∧ n' ≤ c' ∧ c' ≤ 9223372036854775807) ∧ Ext W w') := hid (fun W hW => (pencode_any p _ W (hp.ext hW) hw).mono fun e w' ⟨⟨A',c',h1,h2⟩,h3⟩ => ⟨⟨A',_,c',h1,rfl,Rd.of_own h2,(slice_cap h2).1,(slice_cap h2).2⟩,h3⟩)
 obtain ⟨X,A,n,c,B,m,d,rfl,hS⟩ := hp
 clear hV hS hw
 obtain ⟨Y,hY⟩ : ∃ y,y = encE' V p := ⟨_,rfl⟩
 have HY : Hid (Y = if V = 0 then (if 1200 < p.sl.size then 4 else 0) else V) := hid hY
 rw [← hY]
 clear hY
 obtain ⟨EP,hEP⟩ : ∃ e,e = encP p := ⟨_,rfl⟩
 rw [← hEP] at HEN ⊢
 clear hEP
 obtain ⟨shop,seq,day,needs,clause,ops,sl⟩ := p
 unfold patCl at HV HEN ⊢
 dsimp only at HV HEN HY ⊢
 obtain ⟨w1,hw1⟩ : ∃ x,x = w.alloc (.cells #[.int .i64 shop,.int .i64 seq,.int .i64 day,.slice A n c,.int .i64 clause,.slice B m d,.string sl] 37) := ⟨_,rfl⟩
 have E1 : Hid (Ext w w1) := hid (by rw [hw1];exact (Ext.refl w).alloc _)
 obtain ⟨g,hg⟩ : ∃ g,g = w.heap.size := ⟨_,rfl⟩
 have B1 : Hid (Blk w1 g 37 [.int .i64 shop,.int .i64 seq,.int .i64 day,.slice A n c,.int .i64 clause,.slice B m d,.string sl]) := hid (by rw [hw1,hg];exact Blk.fresh' _ _ _ _ _ rfl rfl)
 go_enter Tryz.func16,Tryz.ntmps16
 go_upto_region 1 with fail
 change Code.wp _ _ _ _ (w.alloc (.cells #[.int .i64 shop,.int .i64 seq,.int .i64 day,.slice A n c,.int .i64 clause,.slice B m d,.string sl] 37))
 rw [← hw1]
 rw [← hg]
 clear hw1 hg
 go_upto_region 2 with (first
  | (refine wpList_load_blk rfl 37 (.tmp 1) rfl g (by kernel_rfl) B1.out Tryz.underlying37 rfl (pat_info.trans rfl) ?_)
  | (go_at_call 5;(with_reducible refine (HV.out w1 E1.out).mono ?_);rintro e w2 ⟨rfl,hE2⟩;have E2 : Hid (Ext w w2) := hid (E1.out.next hE2);have B2 := hid (B1.out.ext hE2);clear hE2))
 by_cases hv : V = 0
 ·have hv1 : (V != (0 : Int)) = false := by rw [hv];rfl
  have HY2 : Hid (Y = if 1200 < sl.size then 4 else 0) := hid (by rw [HY.out,if_pos hv])
  clear hv HV
  have c6 : w2.cell? ⟨g,6,none⟩ = some (.string sl) := B2.out.cell 6
  by_cases hs : 1200 < sl.size
  ·have hs1 : decide ((1200 : Int) < (sl.size : Int)) = true := decide_eq_true (by omega)
   have hs2 : decide (1200 < sl.size) = true := decide_eq_true hs
   have HQ : Hid (Y = 4) := hid (by rw [HY2.out,if_pos hs])
   clear hs
   go_wp2_with fail
   go_ret2
   rw [HQ.out]
   exact ⟨⟨_,_,_,rfl,fun h => absurd h (by decide),fun _ => ⟨rfl,rfl,rfl⟩⟩,E2.out⟩
  ·have hs1 : decide ((1200 : Int) < (sl.size : Int)) = false := decide_eq_false (by omega)
   have hs2 : decide (1200 < sl.size) = false := decide_eq_false hs
   have HQ : Hid (Y = 0) := hid (by rw [HY2.out,if_neg hs])
   clear hs
   go_wp2_with (first
    | (refine wpList_load_blk rfl 37 (.tmp 1) rfl g (by kernel_rfl) B2.out Tryz.underlying37 rfl (pat_info.trans rfl) ?_)
    | (go_at_call 30;(with_reducible refine (HEN.out w2 E2.out).mono ?_);rintro e w3 ⟨⟨A3,n3,c3,rfl,hn3,hr3,hc3⟩,hE3⟩;have E3 : Hid (Ext w w3) := hid (E2.out.next hE3);have R3 := hid hr3;have C3 := hid hc3;have N3 := hid hn3;clear hE3 hr3 hc3 hn3))
   go_ret2
   rw [HQ.out]
   exact ⟨⟨_,_,_,rfl,fun _ => ⟨N3.out,R3.out,C3.out⟩,fun h => absurd rfl h⟩,E3.out⟩
 ·have hv1 : (V != (0 : Int)) = true := by rw [bne_iff_ne];exact hv
  have HQ : Hid (Y = V) := hid (by rw [HY.out,if_neg hv])
  have HVN := hid hv
  clear hv
  go_wp2_with fail
  go_ret2
  rw [HQ.out]
  exact ⟨⟨_,_,_,rfl,fun h => absurd h HVN.out,fun _ => ⟨rfl,rfl,rfl⟩⟩,E2.out⟩
theorem qbyt_flat {α : Type} {f : α → List Int} : ∀ {l : List α},(∀ x ∈ l,Byt (f x)) → Byt (l.flatMap f)
 | [],_ => Byt.nil
 | x :: l,h => by
  rw [List.flatMap_cons]
  exact (h x (List.mem_cons_self ..)).app (qbyt_flat fun y hy => h y (List.mem_cons_of_mem _ hy))
theorem qbyt_ints {l : List Int} (h : ∀ x ∈ l,-9223372036854775808 ≤ x ∧ x ≤ 9223372036854775807) (hn : l.length ≤ 1000000000000) : Byt (encL encInt l) :=
 (encInt_byt _ (by omega) (by omega)).app (qbyt_flat fun x hx => encInt_byt x (h x hx).1 (h x hx).2)
theorem qbyt_strs {l : List ByteArray} (h : ∀ s ∈ l,s.size ≤ 1000000) (hn : l.length ≤ 1000000000000) : Byt (encL encB l) :=
 (encInt_byt _ (by omega) (by omega)).app (qbyt_flat fun x hx => encB_byt x (Nat.le_trans (h x hx) (by decide)))
theorem qbyt_typ : ∀ {t : List TyN},TyW t → Byt (encT t)
 | [],_ => Byt.nil
 | x :: r,h => by
  have hx := h x (List.mem_cons_self ..)
  refine Byt.app (qbyt_ints (fun y hy => ?_) (by simp [tyI])) (qbyt_typ fun y hy => h y (List.mem_cons_of_mem _ hy))
  simp only [tyI,List.mem_cons,List.not_mem_nil,or_false] at hy
  obtain ⟨h1,h2,h3,h4⟩ := hx
  unfold i64 at h1 h2 h3 h4
  rcases hy with rfl | rfl | rfl | rfl | rfl
  ·exact h1
  ·exact h2
  ·exact h3
  ·exact h4
  ·split <;> omega
theorem flat3_len (L : List Rid) : (L.flatMap thrI).length = 3 * L.length := by
 induction L with
 | nil => rfl
 | cons x L ih => rw [List.flatMap_cons,List.length_append,ih];simp [thrI];omega
theorem qbyt_node {x : NodA} (h : NodW x) (h1 : x.kids.length ≤ 1000000) (h2 : x.names.length ≤ 1000000) : Byt (encN x) :=
 (((qbyt_ints (nodN_i64 h) (by simp [nodN,thrI])).app (qbyt_typ h.ty)).app (qbyt_ints (kids_i64 h.kids) (by rw [flat3_len];omega))).app (qbyt_strs h.names (by omega))
theorem qbyt_op {w : World} {o : OpA} {cs : List Value} (hv : OpV w o cs) (h : OpW o) : Byt (encO o) := by
 obtain ⟨t,nd,A,n,c,_,hS⟩ := hv
 obtain ⟨t2,A2,n2,c2,B2,m2,d2,_,hN⟩ := hS.nod
 have h1 := strs_n hS.txt
 have h2 := idsC_n hN.kids
 have h3 := strs_n hN.nms
 have h4 := hS.tfew;have h5 := hN.kfew;have h6 := hN.nfew
 exact ((((qbyt_ints (opN_i64 h) (by simp [opN,thrI])).app (encB_byt _ (Nat.le_trans h.name (by decide)))).app (qbyt_typ h.ty)).app (qbyt_node h.node (by omega) (by omega))).app (qbyt_strs h.texts (by omega))
theorem qbyt_pat {w : World} {p : PatA} {cs : List Value} (hv : PatV w p cs) (h : PatW p) : Byt (encP p) := by
 obtain ⟨X,A,n,c,B,m,d,_,hS⟩ := hv
 have hl := hS.len
 have h1 := hS.nfew;have h2 := hS.ofew
 refine ((((qbyt_ints (four_i64 h.nums) (by simp)).app (qbyt_ints (needI_i64 h.needs) ?_)).app (encInt_byt _ (by omega) (by omega))).app (qbyt_flat fun o ho => ?_)).app (encB_byt _ (Nat.le_trans h.sl (by decide)))
 ·have : (needI p.needs).length = 2 * p.needs.length := by
   unfold needI
   generalize p.needs = L
   induction L with
   | nil => rfl
   | cons x L ih => rw [List.flatMap_cons,List.length_append,ih];simp;omega
  omega
 ·rw [← hS.same] at ho
  obtain ⟨y,hy,rfl⟩ := List.mem_map.1 ho
  exact qbyt_op (hS.each y hy) (h.ops _ (by rw [← hS.same];exact List.mem_map.2 ⟨y,hy,rfl⟩))
def decOk (V : Int) (bad : Bool) (l : List Int) (p : PatA) : Bool := !bad && (decide (encE' V p = 0) && preB l (encP p))
theorem pdecode_of (p : PatA) (bad : Bool) (V : Int) (l : List Int) (A : Option Addr) (n c : Nat) (w : World) (hl : Rd w w.heap.size A n (u8s l)) (hby : Byt l) (hnc : n ≤ c) (hc : c ≤ 9223372036854775807) (hn : n ≤ 1000000000000) (hw : bad = false → PatW p)
  (hrd : ∀ W g,Ext w W → w.heap.size < g → Blk W w.heap.size 37 P0 → Rdr W g l A n c false → Calls Tryz.prog 40 #[.pointer (some ⟨g,0,none⟩)] W fun e w' => (∃ cs,e = .returned (.agg cs.toArray) ∧ cs.length = 7 ∧ (∀ v ∈ cs,v.oneCell' = true) ∧ (bad = false → PatP (fun b => b ≠ w.heap.size) w' p cs)) ∧ (∃ l2 A2 n2 c2,Rdr w' g l2 A2 n2 c2 bad) ∧ Kept (fun b => b = g) W w')
  (hV : bad = false → ∀ W cs,Ext w W → PatV W p cs → Calls Tryz.prog 5 #[.agg cs.toArray] W fun e w' => e = .returned (.int .i64 V) ∧ Ext W w') :
  Calls Tryz.prog 17 #[.slice A n c] w fun e w' => (∃ cs,e = .returned (.tuple #[.agg cs.toArray,.int .i64 (if decOk V bad l p then ((encP p).length : Int) else 0),.int .i64 (if decOk V bad l p then 0 else 2)]) ∧ (decOk V bad l p = true → PatV w' p cs) ∧ (decOk V bad l p = false → cs = P0)) ∧ Ext w w' := by
 have H : Hid (∀ W g,Ext w W → Blk W g 80 [.slice A n c,.bool false] → w.heap.size ≤ g → Rdr W g l A n c false) := hid (fun W g hW hb hg => ⟨hb,hl.ext' hW,hby,hnc,hc,hn⟩)
 have HRD := hid hrd
 have HEC : Hid (bad = false → ∀ W cs,Ext w W → PatV W p cs → Calls Tryz.prog 16 #[.agg cs.toArray] W fun e w' => (∃ A n c,e = .returned (.tuple #[.slice A n c,.int .i64 (encE' V p)]) ∧ (encE' V p = 0 → n = (encP p).length ∧ Rd w' w'.heap.size A n (u8s (encP p)) ∧ n ≤ c ∧ c ≤ 9223372036854775807) ∧ (encE' V p ≠ 0 → A = none ∧ n = 0 ∧ c = 0)) ∧ Ext W w') := hid (fun hb W cs hW hp => pEncode_of p V cs W hp (hw hb) (fun W2 hW2 => hV hb W2 cs (hW.next hW2) (hp.ext hW2)))
 have HPX : Hid (∀ W cs A' m d,bad = false → Ext w W → PatV W p cs → Rd W W.heap.size A' m (u8s (encP p)) → m = (encP p).length → Calls Tryz.prog 41 #[.slice A n c,.slice A' m d] W fun e w' => e = .returned (.bool (preB l (encP p))) ∧ Ext W w') := hid (fun W cs A' m d hb hW hp hr hm => hasPrefix_any l (encP p) A A' n c m d W (hl.ext' hW) hby hr (qbyt_pat hp (hw hb)) hnc hc (by have := (hw hb).size;omega))
 obtain ⟨Y,hY⟩ : ∃ y,y = decOk V bad l p := ⟨_,rfl⟩
 obtain ⟨pb,hpb⟩ : ∃ y,y = preB l (encP p) := ⟨_,rfl⟩
 obtain ⟨E,hE⟩ : ∃ y,y = encE' V p := ⟨_,rfl⟩
 obtain ⟨el,hel⟩ : ∃ y,y = (encP p).length := ⟨_,rfl⟩
 have HY : Hid (Y = (!bad && (decide (E = 0) && pb))) := hid (by rw [hY,hpb,hE];rfl)
 rw [← hpb,← hel] at HPX
 rw [← hE,← hel] at HEC
 rw [← hY,← hel]
 obtain ⟨EP,hEP⟩ : ∃ y,y = encP p := ⟨_,rfl⟩
 rw [← hEP] at HEC HPX
 obtain ⟨rl,hrl⟩ : ∃ y : Int,y = if Y then (el : Int) else 0 := ⟨_,rfl⟩
 obtain ⟨re,hre⟩ : ∃ y : Int,y = if Y then 0 else 2 := ⟨_,rfl⟩
 have HRE : Hid (rl = (if Y then (el : Int) else 0) ∧ re = if Y then 0 else 2) := hid ⟨hrl,hre⟩
 rw [← hrl,← hre]
 have zz := zero_pat
 clear hl hby hnc hc hn hw hrd hV hY hpb hE hel hEP hrl hre
 go_enter Tryz.func17,Tryz.ntmps17
 go_upto_region 1 with fail
 obtain ⟨w1,hw1⟩ : ∃ x,x = w.alloc (.cells P0.toArray 37) := ⟨_,rfl⟩
 change Code.wp _ _ _ _ (w.alloc (.cells P0.toArray 37))
 rw [← hw1]
 have E1 : Hid (Ext w w1) := hid (by rw [hw1];exact (Ext.refl w).alloc _)
 have BZ1 : Hid (Blk w1 w.heap.size 37 P0) := hid (by rw [hw1];exact Blk.fresh' _ _ _ _ _ rfl rfl)
 clear hw1
 go_upto_region 2 with (refine wpList_build_eq (by rfl) 80 _ rfl _ (by kernel_rfl) _ (build_rdr A n c) ?_)
 obtain ⟨w2,hw2⟩ : ∃ x,x = w1.alloc (.cells #[.slice A n c,.bool false] 80) := ⟨_,rfl⟩
 change Code.wp _ _ _ _ (w1.alloc (.cells #[.slice A n c,.bool false] 80))
 rw [← hw2]
 have E12 : Hid (Ext w1 w2) := hid (by rw [hw2];exact (Ext.refl w1).alloc _)
 have BG : Hid (Blk w2 w1.heap.size 80 [.slice A n c,.bool false]) := hid (by rw [hw2];exact Blk.fresh' _ _ _ _ _ rfl rfl)
 obtain ⟨g,hg⟩ : ∃ g,g = w1.heap.size := ⟨_,rfl⟩
 rw [← hg] at BG ⊢
 have HGW : Hid (w.heap.size < g) := hid (by rw [hg];exact BZ1.out.lt)
 have E2 : Hid (Ext w w2) := hid (E1.out.next E12.out)
 have BZ2 := hid (BZ1.out.ext E12.out)
 have HPB := hid (HRD.out w2 g E2.out HGW.out BZ2.out (H.out w2 g E2.out BG.out (Nat.le_of_lt HGW.out)))
 clear hw2 hg H BZ1 E1 E12 BG HRD
 go_upto_region 3 with (first
  | (go_at_call 40;(with_reducible refine HPB.out.mono ?_);rintro e w3 ⟨⟨cs,rfl,hcl,hco,hpp⟩,⟨l2,A2,n2,c2,hr3⟩,hk3⟩;have HCL := hid hcl;have HCO := hid hco;have HPP := hid hpp;have R3 := hid hr3;have K3 := hid hk3;clear hcl hco hr3 hk3 hpp)
  | (refine wpList_store_freshw rfl 37 (.tmp 6) (.tmp 13) rfl w3.heap.size rfl P0 cs 37 (by kernel_rfl) (by kernel_rfl) (info_pat.trans (congrArg some HCL.out.symm)) (Eq.trans (b := 7) rfl HCL.out.symm) HCO.out ?_;intro w4 hw4 hE4 hz4;have E34 := hid hE4;have BC := hid hw4;clear hw4 hE4 hz4))
 have E4 : Hid (Ext w w4) := hid ((ext_kept E2.out K3.out (fun b hb => by rw [hb];exact Nat.le_of_lt HGW.out)).next E34.out)
 have R4 := hid (R3.out.ext E34.out)
 have c41 := R4.out.blk.cell 1
 have BZ4 : Hid (Blk w4 w.heap.size 37 P0) := hid ((K3.out.blk BZ2.out (fun e => by have := HGW.out;omega)).ext E34.out)
 have HP4 : Hid (bad = false → PatP (fun b => b ≠ w.heap.size) w4 p cs) := hid (fun hb => (HPP.out hb).keep E34.out.size (fun b _ hlt => E34.out.block b hlt))
 obtain ⟨g6,hg6⟩ : ∃ g,g = w3.heap.size := ⟨_,rfl⟩
 rw [← hg6] at BC ⊢
 have HG6 : Hid (w.heap.size < g6) := hid (by rw [hg6];exact (K3.out.blk BZ2.out (fun e => by have := HGW.out;omega)).lt)
 clear hg6 HPP K3 R3 BZ2 HPB E2 R4 E34
 cases bad
 case true =>
  have HQ : Hid (Y = false) := hid (by rw [HY.out];rfl)
  go_wp2_with (first
   | (refine wpList_build_eq (by rfl) 37 _ rfl _ (by kernel_rfl) _ build_pat0 ?_)
   | (refine wpList_store_blk rfl 37 (.tmp 2) (.tmp 18) rfl w.heap.size P0 (by kernel_rfl) (by kernel_rfl) BZ4.out (info_pat.trans rfl) rfl (patC_one _ _ _ _ _ _ _ _ _ _ _) ?_;intro w5 hw5 hb5;have B5 := hid hb5;have W5 := hid hw5;clear hw5 hb5))
  have HR2 := HRE.out
  rw [HQ.out] at HR2
  rw [HR2.1,HR2.2,HQ.out]
  exact bodyPost_ret (results_blk_bit3 Tryz.results17 _ _ w.heap.size 37 P0 _ (by rfl) B5.out Tryz.underlying37 rfl (info_pat.trans rfl)) rfl ⟨⟨P0,rfl,fun h => absurd h (by decide),fun _ => rfl⟩,by rw [W5.out];exact E4.out.setRow (Nat.le_refl _) _⟩
 case false =>
  have HEC2 := hid (HEC.out rfl w4 cs E4.out (HP4.out rfl).patV)
  have HP5 := hid (HP4.out rfl)
  clear HEC HP4
  go_upto_region 6 with (first
   | (refine wpList_load_blk rfl 37 (.tmp 6) rfl g6 (by kernel_rfl) BC.out Tryz.underlying37 rfl (info_pat.trans (congrArg some HCL.out.symm)) ?_)
   | (go_at_call 16;(with_reducible refine HEC2.out.mono ?_);rintro e w5 ⟨⟨A5,n5,c5,rfl,hz5,hnz5⟩,hE5⟩;have X5 := hid hE5;have HZ5 := hid hz5;have HN5 := hid hnz5;clear hE5 hz5 hnz5))
  have E5 := hid (E4.out.next X5.out)
  have BC5 := hid (BC.out.ext X5.out)
  have BZ5 := hid (BZ4.out.ext X5.out)
  have HP6 : Hid (PatP (fun b => b ≠ w.heap.size) w5 p cs) := hid (HP5.out.keep X5.out.size (fun b _ hlt => X5.out.block b hlt))
  clear c41 E4 BC BZ4 HEC2 HP5 X5
  by_cases he : E = 0
  ·subst he
   obtain ⟨hn5,hr5,hc5⟩ := HZ5.out rfl
   subst hn5
   have HPX2 := hid (HPX.out w5 cs A5 n5 c5 trivial E5.out HP6.out.patV hr5 rfl)
   clear HPX HZ5 HN5 hr5 hc5
   cases pb
   ·have HQ : Hid (Y = false) := hid (by rw [HY.out];rfl)
    go_wp2_with (first
     | (go_at_call 41;(with_reducible refine HPX2.out.mono ?_);rintro e w6 ⟨rfl,hE6⟩;have E6 := hid (E5.out.next hE6);have BZ6 := hid (BZ5.out.ext hE6);clear hE6)
     | (refine wpList_build_eq (by rfl) 37 _ rfl _ (by kernel_rfl) _ build_pat0 ?_)
     | (refine wpList_store_blk rfl 37 (.tmp 2) (.tmp 32) rfl w.heap.size P0 (by kernel_rfl) (by kernel_rfl) BZ6.out (info_pat.trans rfl) rfl (patC_one _ _ _ _ _ _ _ _ _ _ _) ?_;intro w7 hw7 hb7;have B7 := hid hb7;have W7 := hid hw7;clear hw7 hb7))
    have HR2 := HRE.out
    rw [HQ.out] at HR2
    rw [HR2.1,HR2.2,HQ.out]
    exact bodyPost_ret (results_blk_bit3 Tryz.results17 _ _ w.heap.size 37 P0 _ (by rfl) B7.out Tryz.underlying37 rfl (info_pat.trans rfl)) rfl ⟨⟨P0,rfl,fun h => absurd h (by decide),fun _ => rfl⟩,by rw [W7.out];exact E6.out.setRow (Nat.le_refl _) _⟩
   ·have HQ : Hid (Y = true) := hid (by rw [HY.out];rfl)
    go_wp2_with (first
     | (go_at_call 41;(with_reducible refine HPX2.out.mono ?_);rintro e w6 ⟨rfl,hE6⟩;have E6 := hid (E5.out.next hE6);have BZ6 := hid (BZ5.out.ext hE6);have BC6 := hid (BC5.out.ext hE6);have HP7 : Hid (PatP (fun b => b ≠ w.heap.size) w6 p cs) := hid (HP6.out.keep hE6.size (fun b _ hlt => hE6.block b hlt));clear hE6)
     | (refine wpList_load_blk rfl 37 (.tmp 6) rfl g6 (by kernel_rfl) BC6.out Tryz.underlying37 rfl (info_pat.trans (congrArg some HCL.out.symm)) ?_)
     | (refine wpList_store_blk rfl 37 (.tmp 2) (.tmp 33) rfl w.heap.size cs (by kernel_rfl) (by kernel_rfl) BZ6.out (info_pat.trans (congrArg some HCL.out.symm)) (Eq.trans (b := 7) rfl HCL.out.symm) HCO.out ?_;intro w7 hw7 hb7;have B7 := hid hb7;have W7 := hid hw7;clear hw7 hb7))
    have HR2 := HRE.out
    rw [HQ.out] at HR2
    rw [HR2.1,HR2.2,HQ.out]
    have K7 : Kept (fun b => b = w.heap.size) w6 w7 := by rw [W7.out];exact Kept.setRow (F := fun b => b = w.heap.size) _ rfl _
    exact bodyPost_ret (results_blk_bit3 Tryz.results17 _ _ w.heap.size 37 cs _ (by rfl) B7.out Tryz.underlying37 rfl (info_pat.trans (congrArg some HCL.out.symm))) rfl ⟨⟨cs,rfl,fun _ => (HP7.out.keep K7.size (fun b hb hlt => K7.block b hlt hb)).patV,fun h => absurd h (by decide)⟩,by rw [W7.out];exact E6.out.setRow (Nat.le_refl _) _⟩
  ·have he1 : (E != (0 : Int)) = true := by rw [bne_iff_ne];exact he
   have HQ : Hid (Y = false) := hid (by rw [HY.out,decide_eq_false he];rfl)
   clear he HPX HZ5 HN5
   go_wp2_with (first
    | (refine wpList_build_eq (by rfl) 37 _ rfl _ (by kernel_rfl) _ build_pat0 ?_)
    | (refine wpList_store_blk rfl 37 (.tmp 2) (.tmp 32) rfl w.heap.size P0 (by kernel_rfl) (by kernel_rfl) BZ5.out (info_pat.trans rfl) rfl (patC_one _ _ _ _ _ _ _ _ _ _ _) ?_;intro w7 hw7 hb7;have B7 := hid hb7;have W7 := hid hw7;clear hw7 hb7))
   have HR2 := HRE.out
   rw [HQ.out] at HR2
   rw [HR2.1,HR2.2,HQ.out]
   exact bodyPost_ret (results_blk_bit3 Tryz.results17 _ _ w.heap.size 37 P0 _ (by rfl) B7.out Tryz.underlying37 rfl (info_pat.trans rfl)) rfl ⟨⟨P0,rfl,fun h => absurd h (by decide),fun _ => rfl⟩,by rw [W7.out];exact E5.out.setRow (Nat.le_refl _) _⟩
end Go.Proofs.YtojcmcccahjphaaGreatDoor
/- The reference's rules for nodes and operations are those of package patch. No program, no condition. -/
namespace Go.Proofs.YtojcmcccahjphaaGreatDoor
open Go.RowKit
open Lib (hid)
def rKids (x : NodA) : Int × Int := if x.k = 3 then (0,6) else if x.k = 4 then (if x.n = 9 ∨ x.n = 11 then (1,1) else (2,2)) else if x.k = 5 ∨ x.k = 12 then (3,3) else if x.k = 6 then (2,2) else if x.k = 7 then (1,6) else if x.k = 8 ∨ x.k = 9 then (1,1) else if x.k = 10 then (2,7) else if x.k = 11 then (0,8) else (0,0)
def rNum (x : NodA) : Int × Int := if x.k = 0 then (-1099511627776,1099511627776) else if x.k = 1 then (0,1) else if x.k = 2 then (0,7) else if x.k = 4 then (0,11) else if x.k = 8 ∨ x.k = 9 then (0,5) else (0,0)
def rRef (k : Int) : Bool := decide (k = 2 ∨ k = 3 ∨ k = 7 ∨ k = 8 ∨ k = 9 ∨ k = 10)
def rNames (x : NodA) : Int := if x.k = 6 then 1 else if x.k = 12 then 2 else if x.k = 10 then (x.kids.length : Int) - 1 else 0
def rBad1 (x : NodA) : Bool := decide (x.k < 0) || (decide (12 < x.k) || !winB x.n (rNum x).1 (rNum x).2)
def rBad2 (x : NodA) : Bool := decide ((x.kids.length : Int) < (rKids x).1) || (decide ((rKids x).2 < (x.kids.length : Int)) || ((rRef x.k && !idB x.ref) || (!rRef x.k && !decide (x.ref = ⟨0,0,0⟩))))
def rBad3 (x : NodA) : Bool := (!decide ((x.names.length : Int) = rNames x)) || ((decide (x.k = 11) && !formedB x.ty 24) || (!decide (x.k = 11) && !zeroB x.ty))
def rnodeB (x : NodA) : Bool := if rBad1 x then false else if rBad2 x then false else if rBad3 x then false else x.kids.all idB && x.names.all nameB
theorem k_cases {k : Int} (h0 : 0 ≤ k) (h1 : k ≤ 12) : k = 0 ∨ k = 1 ∨ k = 2 ∨ k = 3 ∨ k = 4 ∨ k = 5 ∨ k = 6 ∨ k = 7 ∨ k = 8 ∨ k = 9 ∨ k = 10 ∨ k = 11 ∨ k = 12 := by omega
theorem rNum_eq (x : NodA) (h0 : 0 ≤ x.k) (h1 : x.k ≤ 12) : rNum x = ((contOf x).lo,(contOf x).hi) := by
 obtain ⟨k,n,ref,ty,kids,names⟩ := x
 rcases k_cases h0 h1 with h | h | h | h | h | h | h | h | h | h | h | h | h <;> (dsimp only at h;subst h;rfl)
theorem rRef_eq (x : NodA) (h0 : 0 ≤ x.k) (h1 : x.k ≤ 12) : rRef x.k = (contOf x).rf := by
 obtain ⟨k,n,ref,ty,kids,names⟩ := x
 rcases k_cases h0 h1 with h | h | h | h | h | h | h | h | h | h | h | h | h <;> (dsimp only at h;subst h;rfl)
theorem rNames_eq (x : NodA) (h0 : 0 ≤ x.k) (h1 : x.k ≤ 12) : rNames x = namesI x := by
 obtain ⟨k,n,ref,ty,kids,names⟩ := x
 rcases k_cases h0 h1 with h | h | h | h | h | h | h | h | h | h | h | h | h <;> (dsimp only at h;subst h;rfl)
theorem rKids_eq (x : NodA) (h0 : 0 ≤ x.k) (h1 : x.k ≤ 12) : (decide ((x.kids.length : Int) < (rKids x).1) || decide ((rKids x).2 < (x.kids.length : Int))) = (opBad x || !winB (x.kids.length : Int) (contOf x).le (contOf x).mo) := by
 obtain ⟨k,n,ref,ty,kids,names⟩ := x
 have hw : ∀ (m a b : Int),(decide (m < a) || decide (b < m)) = (false || !(decide (a ≤ m) && decide (m ≤ b))) := fun m a b => by
  by_cases h1 : a ≤ m <;> by_cases h2 : m ≤ b <;> simp [h1,h2] <;> omega
 rcases k_cases h0 h1 with h | h | h | h | h | h | h | h | h | h | h | h | h <;> (dsimp only at h;subst h)
 case inr.inr.inr.inr.inl =>
  show (decide ((kids.length : Int) < (if n = 9 ∨ n = 11 then ((1,1) : Int × Int) else (2,2)).1) || decide ((if n = 9 ∨ n = 11 then ((1,1) : Int × Int) else (2,2)).2 < (kids.length : Int))) = ((decide ((4 : Int) = 4) && (decide (kids.length = 1) != (decide (n = 9) || decide (n = 11)))) || !winB (kids.length : Int) 1 2)
  unfold winB
  generalize kids.length = m
  rcases (by omega : m = 0 ∨ m = 1 ∨ m = 2 ∨ 3 ≤ m) with rfl | rfl | rfl | hm
  ·by_cases h9 : n = 9 <;> by_cases h11 : n = 11 <;> simp [h9,h11]
  ·by_cases h9 : n = 9 <;> by_cases h11 : n = 11 <;> simp [h9,h11]
  ·by_cases h9 : n = 9 <;> by_cases h11 : n = 11 <;> simp [h9,h11]
  ·have d1 : decide ((1 : Int) < (m : Int)) = true := decide_eq_true (by omega)
   have d2 : decide ((2 : Int) < (m : Int)) = true := decide_eq_true (by omega)
   have d3 : decide ((m : Int) ≤ 2) = false := decide_eq_false (by omega)
   have d4 : decide (m = 1) = false := decide_eq_false (by omega)
   rw [d3,d4]
   by_cases h9 : n = 9 ∨ n = 11
   ·rw [if_pos h9,d1];simp
   ·rw [if_neg h9,d2];simp
 all_goals exact hw _ _ _
theorem id_zero : idB ⟨0,0,0⟩ = false := by decide
theorem rnodeB_eq (x : NodA) : rnodeB x = nodeB x := by
 by_cases h0 : x.k < 0
 ·have e : rBad1 x = true := by unfold rBad1;rw [decide_eq_true h0];rfl
  unfold rnodeB nodeB
  rw [e,if_pos rfl,if_pos h0]
 by_cases h1 : 13 ≤ x.k
 ·have e : rBad1 x = true := by unfold rBad1;rw [decide_eq_true (show 12 < x.k by omega)];simp
  unfold rnodeB nodeB
  rw [e,if_pos rfl,if_neg h0,if_pos h1]
 have a0 : 0 ≤ x.k := by omega
 have a1 : x.k ≤ 12 := by omega
 have e1 : rBad1 x = !winB x.n (contOf x).lo (contOf x).hi := by
  unfold rBad1
  rw [rNum_eq x a0 a1,decide_eq_false h0,decide_eq_false (show ¬ 12 < x.k by omega)]
  rfl
 have e2 : rBad2 x = ((opBad x || !winB (x.kids.length : Int) (contOf x).le (contOf x).mo) || (((contOf x).rf && !idB x.ref) || (!(contOf x).rf && !decide (x.ref = ⟨0,0,0⟩)))) := by
  unfold rBad2
  rw [← rKids_eq x a0 a1,rRef_eq x a0 a1,Bool.or_assoc]
 have e3 : rBad3 x = ((!decide ((x.names.length : Int) = namesI x)) || (tyOk x == false)) := by
  unfold rBad3 tyOk
  rw [rNames_eq x a0 a1]
  by_cases h : x.k = 11 <;> simp [h]
 have hz : idB x.ref = true → decide (x.ref = ⟨0,0,0⟩) = false := fun h => by
  by_cases hr : x.ref = ⟨0,0,0⟩
  ·rw [hr,id_zero] at h;cases h
  ·exact decide_eq_false hr
 unfold rnodeB nodeB nodBad
 rw [if_neg h0,if_neg h1,e1,e2,e3]
 generalize winB x.n (contOf x).lo (contOf x).hi = b1 at *
 generalize winB (x.kids.length : Int) (contOf x).le (contOf x).mo = b2 at *
 generalize opBad x = b3 at *
 generalize (contOf x).rf = b4 at *
 generalize idB x.ref = b5 at *
 generalize decide (x.ref = ⟨0,0,0⟩) = b6 at *
 generalize decide ((x.names.length : Int) = namesI x) = b7 at *
 generalize tyOk x = b8 at *
 generalize (x.kids.all idB && x.names.all nameB) = b9 at *
 clear e1 e2 e3
 cases b1 <;> cases b2 <;> cases b3 <;> cases b4 <;> cases b5 <;> cases b6 <;> cases b7 <;> cases b8 <;> first | rfl | (exact absurd (hz rfl) (by decide))
def usesS (k : Int) : ByteArray := if k = 0 then ⟨#[65]⟩ else if k = 1 then ⟨#[79,84]⟩ else if k = 2 then ⟨#[79,65]⟩ else if k = 3 then ⟨#[79,65,89]⟩ else if k = 4 then ⟨#[68]⟩ else if k = 5 then ⟨#[79,65]⟩ else if k = 6 ∨ k = 11 then ⟨#[79,84]⟩ else if k = 7 then ⟨#[79]⟩ else if k = 8 then ⟨#[79]⟩ else if k = 9 then ⟨#[79,89]⟩ else if k = 10 then ⟨#[79,89]⟩ else if k = 12 then ⟨#[79,68]⟩ else if k = 13 then ⟨#[79,88]⟩ else ⟨#[]⟩
def usesN (k : Int) : Int := if k = 1 then 1 else if k = 2 then 5 else if k = 3 then 1023 else if k = 7 then 1023 else if k = 8 then 1 else 0
def usesM (k : Int) : Int := if k = 3 then 64 else if k = 9 then 64 else 0
def hasB (s : ByteArray) (c : UInt8) : Bool := s.data.toList.contains c
def ropE1 (x : OpA) : Bool := decide ((usesS x.k).size = 0) || (decide (x.n < 0) || (decide (usesN x.k < x.n) || (decide (x.most < 0) || (decide (usesM x.k < x.most) || decide (256 < x.texts.length)))))
def ropE2 (x : OpA) : Bool := (hasB (usesS x.k) 79 && !idB x.on) || ((!hasB (usesS x.k) 79 && !decide (x.on = ⟨0,0,0⟩)) || ((hasB (usesS x.k) 84 && !idB x.to') || (!hasB (usesS x.k) 84 && !decide (x.to' = ⟨0,0,0⟩))))
def ropE3 (x : OpA) : Bool := (hasB (usesS x.k) 65 && !nameB x.name) || ((!hasB (usesS x.k) 65 && !decide (x.name.toList = [])) || ((hasB (usesS x.k) 89 && !formedB x.ty 24) || (!hasB (usesS x.k) 89 && !zeroB x.ty)))
def ropE4 (x : OpA) : Bool := (hasB (usesS x.k) 68 && !rnodeB x.node) || ((!hasB (usesS x.k) 68 && !emptyB x.node) || (!hasB (usesS x.k) 88 && decide (0 < x.texts.length)))
def ropB (x : OpA) : Bool := if ropE1 x then false else if ropE2 x then false else if ropE3 x then false else if ropE4 x then false else x.texts.all textB
theorem o_cases {k : Int} (h0 : 0 ≤ k) (h1 : k ≤ 13) : k = 0 ∨ k = 1 ∨ k = 2 ∨ k = 3 ∨ k = 4 ∨ k = 5 ∨ k = 6 ∨ k = 7 ∨ k = 8 ∨ k = 9 ∨ k = 10 ∨ k = 11 ∨ k = 12 ∨ k = 13 := by omega
theorem uses_eq (x : OpA) (h0 : 0 ≤ x.k) (h1 : x.k ≤ 13) : decide ((usesS x.k).size = 0) = false ∧ usesN x.k = (shapOf x).hi ∧ usesM x.k = (shapOf x).mo ∧ hasB (usesS x.k) 79 = (shapOf x).on ∧ hasB (usesS x.k) 84 = (shapOf x).to' ∧ hasB (usesS x.k) 65 = (shapOf x).nam ∧ hasB (usesS x.k) 89 = (shapOf x).typ ∧ hasB (usesS x.k) 68 = (shapOf x).nod ∧ hasB (usesS x.k) 88 = (shapOf x).txt := by
 obtain ⟨k,on,to',n,most,name,ty,node,texts⟩ := x
 rcases o_cases h0 h1 with h | h | h | h | h | h | h | h | h | h | h | h | h | h <;> (dsimp only at h;subst h;exact ⟨rfl,rfl,rfl,rfl,rfl,rfl,rfl,rfl,rfl⟩)
theorem uses_none {k : Int} (h : k < 0 ∨ 14 ≤ k) : usesS k = ⟨#[]⟩ := by
 unfold usesS
 rw [if_neg (by omega),if_neg (by omega),if_neg (by omega),if_neg (by omega),if_neg (by omega),if_neg (by omega),if_neg (by omega),if_neg (by omega),if_neg (by omega),if_neg (by omega),if_neg (by omega),if_neg (by omega),if_neg (by omega)]
theorem win_0 (m b : Int) : (decide (m < 0) || decide (b < m)) = !winB m 0 b := by
 unfold winB
 by_cases h1 : 0 ≤ m <;> by_cases h2 : m ≤ b <;> simp [h1,h2] <;> omega
theorem ropB_eq (x : OpA) : ropB x = operB x := by
 by_cases hk : x.k < 0 ∨ 14 ≤ x.k
 ·have e : ropE1 x = true := by
   unfold ropE1
   rw [uses_none hk]
   rfl
  unfold ropB operB
  rw [e,if_pos rfl]
  rcases hk with h | h
  ·rw [if_pos h]
  ·rw [if_neg (by omega),if_pos h]
 have h0 : 0 ≤ x.k := by omega
 have h1 : x.k ≤ 13 := by omega
 obtain ⟨u0,uN,uM,uO,uT,uA,uY,uD,uX⟩ := uses_eq x h0 h1
 have hz : ∀ y : Rid,idB y = true → decide (y = ⟨0,0,0⟩) = false := fun y h => by
  by_cases hr : y = ⟨0,0,0⟩
  ·rw [hr,id_zero] at h;cases h
  ·exact decide_eq_false hr
 have z1 := hz x.on
 have z2 := hz x.to'
 have e1 : ropE1 x = (!winB x.n 0 (shapOf x).hi || (!winB x.most 0 (shapOf x).mo || decide (256 < x.texts.length))) := by
  unfold ropE1
  rw [u0,uN,uM,← win_0,← win_0,Bool.false_or,Bool.or_assoc,Bool.or_assoc]
 unfold ropB operB ropE2 ropE3 ropE4 opBad1 opBad2 opBad3
 rw [if_neg (show ¬ x.k < 0 by omega),if_neg (show ¬ 14 ≤ x.k by omega),e1,uO,uT,uA,uY,uD,uX,rnodeB_eq]
 generalize winB x.n 0 (shapOf x).hi = b1 at *
 generalize winB x.most 0 (shapOf x).mo = b2 at *
 generalize decide (256 < x.texts.length) = b3 at *
 generalize (shapOf x).on = c1 at *
 generalize (shapOf x).to' = c2 at *
 generalize (shapOf x).nam = c3 at *
 generalize (shapOf x).typ = c4 at *
 generalize (shapOf x).nod = c5 at *
 generalize (shapOf x).txt = c6 at *
 generalize idB x.on = d1 at *
 generalize decide (x.on = ⟨0,0,0⟩) = d2 at *
 generalize idB x.to' = d3 at *
 generalize decide (x.to' = ⟨0,0,0⟩) = d4 at *
 generalize nameB x.name = d5 at *
 generalize decide (x.name.toList = []) = d6 at *
 generalize formedB x.ty 24 = d7 at *
 generalize zeroB x.ty = d8 at *
 generalize nodeB x.node = d9 at *
 generalize emptyB x.node = f1 at *
 generalize decide (0 < x.texts.length) = f2 at *
 generalize x.texts.all textB = f3 at *
 clear e1 u0 uN uM uO uT uA uY uD uX hz h0 h1 hk
 have g1 : (c1 != !d2 || (c1 && !d1)) = ((c1 && !d1) || (!c1 && !d2)) := by cases c1 <;> cases d1 <;> cases d2 <;> first | rfl | (exact absurd (z1 rfl) (by decide))
 have g2 : (c2 != !d4 || (c2 && !d3)) = ((c2 && !d3) || (!c2 && !d4)) := by cases c2 <;> cases d3 <;> cases d4 <;> first | rfl | (exact absurd (z2 rfl) (by decide))
 have g3 : (c1 != !d2 || (c1 && !d1 || (c2 != !d4 || (c2 && !d3 || (!b1 || !b2))))) = ((c1 && !d1 || (!c1 && !d2 || (c2 && !d3 || !c2 && !d4))) || (!b1 || !b2)) := by
  rw [← Bool.or_assoc,g1,← Bool.or_assoc (c2 != !d4),g2,Bool.or_assoc,Bool.or_assoc,Bool.or_assoc,Bool.or_assoc,Bool.or_assoc]
 rw [g3]
 generalize (c1 && !d1 || (!c1 && !d2 || (c2 && !d3 || !c2 && !d4))) = P at *
 cases b1 <;> cases b2 <;> cases b3 <;> cases P <;> simp
 all_goals (cases c3 <;> cases c4 <;> cases c5 <;> cases c6 <;> cases d5 <;> cases d6 <;> cases d7 <;> cases d8 <;> simp [Bool.and_assoc])
end Go.Proofs.YtojcmcccahjphaaGreatDoor
