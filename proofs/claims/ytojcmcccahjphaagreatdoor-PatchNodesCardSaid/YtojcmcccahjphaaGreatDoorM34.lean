/- PatchNodes: the walk. Conditions: the tables of package patch. -/
import Derived.Test.YtojcmcccahjphaaGreatDoorM32
import Derived.Test.YtojcmcccahjphaaGreatDoorM33
import Derived.Test.YtojcmcccahjphaaGreatDoorM4
import Derived.Test.YtojcmcccahjphaaGreatDoorRows
import Derived.Test.YtojcmcccahjphaaGreatDoorM1
import Derived.WideKeyArgs
import Derived.ChangeSame
import Derived.Below
import Derived.ProofKit
import Derived.OpenShut
import Derived.SliceStrings
import Derived.Lib.LaidTab
import Derived.Test.YtojcmcccahjphaaGreatDoorCards
import Derived.Test.YtojcmcccahjphaaGreatDoorTie
import Derived.Deep.DeepHandedRow
set_option linter.unusedSimpArgs false
set_option linter.unusedVariables false
set_option maxHeartbeats 16000000
set_option maxRecDepth 100000
set_option maxRecDepth 100000
set_option maxHeartbeats 16000000
namespace Go.Proofs.YtojcmcccahjphaaGreatDoor
open Go.RowKit
open Lib (hid)
attribute [local go_sem ↓] wp_at_zero wp_at_succ
theorem flat_len_le {α : Type} (f : α → List Int) (k : Nat) : ∀ (l : List α),(∀ x ∈ l,(f x).length ≤ k) → (l.flatMap f).length ≤ k * l.length
 | [],_ => Nat.le_refl _
 | x :: l,h => by
  have h1 := h x (List.mem_cons_self ..)
  have h2 := flat_len_le f k l (fun y hy => h y (List.mem_cons_of_mem _ hy))
  rw [List.flatMap_cons,List.length_append,List.length_cons,Nat.mul_add,Nat.mul_one]
  omega
theorem encL_int_le (l : List Int) (h : ∀ x ∈ l,-9223372036854775808 ≤ x ∧ x ≤ 9223372036854775807) (hl : l.length ≤ 1000000000) : (encL encInt l).length ≤ 9 + 9 * l.length := by
 have h1 := flat_len_le encInt 9 l (fun x hx => encInt_le9 x (h x hx).1 (h x hx).2)
 have h2 := encInt_le9 (l.length : Int) (by omega) (by omega)
 unfold encL
 rw [List.length_append]
 omega
theorem encB_le (s : ByteArray) (k : Nat) (h : s.size ≤ k) (hk : k ≤ 1000000000) : (encB s).length ≤ 9 + k := by
 have h2 := encInt_le9 (s.size : Int) (by omega) (by omega)
 unfold encB
 rw [List.length_append,bys_length]
 omega
theorem encL_str_le (l : List ByteArray) (k : Nat) (h : ∀ s ∈ l,s.size ≤ k) (hk : k ≤ 1000000000) (hl : l.length ≤ 1000000000) : (encL encB l).length ≤ 9 + (9 + k) * l.length := by
 have h1 := flat_len_le encB (9 + k) l (fun x hx => encB_le x k (h x hx) hk)
 have h2 := encInt_le9 (l.length : Int) (by omega) (by omega)
 unfold encL
 rw [List.length_append]
 omega
theorem encT_le : ∀ (t : List TyN),TyW t → (encT t).length ≤ 54 * t.length
 | [],_ => Nat.le_refl _
 | x :: r,h => by
  have h1 := encT_le r (fun y hy => h y (List.mem_cons_of_mem _ hy))
  have h2 := encL_int_le (tyI x r) (tyI_i64 h) (by simp [tyI])
  have h3 : (tyI x r).length = 5 := rfl
  have h4 : encT (x :: r) = encL encInt (tyI x r) ++ encT r := rfl
  rw [h4,List.length_append,List.length_cons]
  omega
theorem encN_le (x : NodA) (h : NodW x) (k t : Nat) (hk : x.kids.length ≤ 1000000) (hn : x.names.length ≤ 1000000) (hs : ∀ s ∈ x.names,s.size ≤ k) (hk2 : k ≤ 1000000000) : (encN x).length ≤ 54 + 54 * x.ty.length + (9 + 27 * x.kids.length) + (9 + (9 + k) * x.names.length) := by
 have h1 := encL_int_le (nodN x) (nodN_i64 h) (by simp [nodN,thrI])
 have h2 := encT_le x.ty h.ty
 have h3 := encL_int_le (x.kids.flatMap thrI) (kids_i64 h.kids) (by rw [flat3_len];omega)
 have h4 := encL_str_le x.names k hs hk2 (by omega)
 have h5 : (nodN x).length = 5 := rfl
 rw [flat3_len] at h3
 unfold encN
 rw [List.length_append,List.length_append,List.length_append]
 omega
theorem pat_few (ops : List OpA) (h : ∀ o ∈ ops,OpW o ∧ (encO o).length ≤ 100000) (hl : ops.length ≤ 100) : PatW ⟨2,3,4,[],0,ops,⟨#[]⟩⟩ := by
 refine ⟨⟨by unfold i64;dsimp only;omega,by unfold i64;dsimp only;omega,by unfold i64;dsimp only;omega,by unfold i64;dsimp only;omega⟩,fun x hx => absurd hx (by simp),fun o ho => (h o ho).1,Nat.zero_le _,?_⟩
 have h1 := flat_len_le encO 100000 ops (fun o ho => (h o ho).2)
 have h2 := encInt_le9 (ops.length : Int) (by omega) (by omega)
 have h3 : (encL encInt [2,3,4,0]).length = 9 := by kernel_rfl
 have h4 : (encL encInt (needI [])).length = 1 := by kernel_rfl
 have h5 : (encB ⟨#[]⟩).length = 1 := by kernel_rfl
 unfold encP
 simp only [List.length_append]
 omega
def tyZ : List TyN := [⟨0,⟨0,0,0⟩⟩]
def nodZ1 : NodA := ⟨0,0,⟨0,0,0⟩,tyZ,[],[]⟩
def opX (k q : Int) (ty : List TyN) (x : NodA) : OpA := ⟨k,⟨0,q,0⟩,⟨0,0,0⟩,0,0,⟨#[]⟩,ty,x,[]⟩
theorem tyZ_W : TyW tyZ := fun x hx => by rw [List.mem_singleton.1 hx];exact i64_ty _ (by decide) (by decide)
theorem opX_W (k q : Int) (ty : List TyN) (x : NodA) (hk : i64 k) (hq : i64 q) (ht : TyW ty) (hx : NodW x) : OpW (opX k q ty x) :=
 ⟨⟨hk,by unfold i64;dsimp only [opX];omega,by unfold i64;dsimp only [opX];omega⟩,⟨by unfold i64;dsimp only [opX];omega,hq,by unfold i64;dsimp only [opX];omega⟩,⟨by unfold i64;dsimp only [opX];omega,by unfold i64;dsimp only [opX];omega,by unfold i64;dsimp only [opX];omega⟩,Nat.zero_le _,ht,hx,fun s hs => absurd hs (by simp [opX])⟩
structure OddW (x : NodA) : Prop where
 w : NodW x
 l1 : x.kids.length ≤ 9
 l2 : x.names.length ≤ 8
 l3 : ∀ s ∈ x.names,s.size ≤ 1
 l4 : x.ty.length ≤ 1001
theorem OddW.enc {x : NodA} (h : OddW x) : (encN x).length ≤ 60000 := by
 have h1 := encN_le x h.w 1 0 (by have := h.l1;omega) (by have := h.l2;omega) h.l3 (by decide)
 have h2 := h.l1;have h3 := h.l2;have h4 := h.l4
 omega
theorem opZ_enc (k q : Int) (x : NodA) (hk : i64 k) (hq : i64 q) (hx : OddW x) : OpW (opX k q tyZ x) ∧ (encO (opX k q tyZ x)).length ≤ 100000 := by
 have hw := opX_W k q tyZ x hk hq tyZ_W hx.w
 refine ⟨hw,?_⟩
 have h1 := encL_int_le (opN (opX k q tyZ x)) (opN_i64 hw) (by simp [opN,thrI])
 have h2 : (opN (opX k q tyZ x)).length = 9 := rfl
 have h3 : (encB ⟨#[]⟩).length = 1 := by kernel_rfl
 have h4 := encT_le tyZ tyZ_W
 have h5 : tyZ.length = 1 := rfl
 have h6 : (encL encB []).length = 1 := by kernel_rfl
 have h7 := hx.enc
 show (encL encInt (opN (opX k q tyZ x)) ++ encB ⟨#[]⟩ ++ encT tyZ ++ encN x ++ encL encB []).length ≤ 100000
 rw [List.length_append,List.length_append,List.length_append,List.length_append]
 omega
theorem nodZ1_W : OddW nodZ1 := ⟨⟨⟨by unfold i64;decide,by unfold i64;decide,by unfold i64;decide,by unfold i64;decide,by unfold i64;decide⟩,tyZ_W,fun y hy => absurd hy (by simp [nodZ1]),fun s hs => absurd hs (by simp [nodZ1])⟩,by decide,by decide,fun s hs => absurd hs (by simp [nodZ1]),by decide⟩
theorem nodZ1_len : (encN nodZ1).length = 16 := by kernel_rfl
theorem opT_enc (k q : Int) (ty : List TyN) (hk : i64 k) (hq : i64 q) (ht : TyW ty) (hl : ty.length ≤ 1001) : OpW (opX k q ty nodZ1) ∧ (encO (opX k q ty nodZ1)).length ≤ 100000 := by
 have hw := opX_W k q ty nodZ1 hk hq ht nodZ1_W.w
 refine ⟨hw,?_⟩
 have h1 := encL_int_le (opN (opX k q ty nodZ1)) (opN_i64 hw) (by simp [opN,thrI])
 have h2 : (opN (opX k q ty nodZ1)).length = 9 := rfl
 have h3 : (encB ⟨#[]⟩).length = 1 := by kernel_rfl
 have h4 := encT_le ty ht
 have h6 : (encL encB []).length = 1 := by kernel_rfl
 have h7 := nodZ1_len
 show (encL encInt (opN (opX k q ty nodZ1)) ++ encB ⟨#[]⟩ ++ encT ty ++ encN nodZ1 ++ encL encB []).length ≤ 100000
 rw [List.length_append,List.length_append,List.length_append,List.length_append]
 omega
theorem tyZ_V (w : World) : TyV w tyZ [.int .i64 0,.int .i64 0,.int .i64 0,.int .i64 0,.slice none 0 0] := ⟨none,0,rfl,by decide⟩
theorem nodZ1_V (w : World) : NodV w nodZ1 [.int .i64 0,.int .i64 0,.int .i64 0,.int .i64 0,.int .i64 0,.int .i64 0,.int .i64 0,.int .i64 0,.int .i64 0,.slice none 0 0,.slice none 0 0,.slice none 0 0] := ⟨_,none,0,0,none,0,0,rfl,⟨tyZ_V w,⟨rfl,fun h => absurd h (Nat.lt_irrefl _)⟩,Nat.le_refl _,by decide,by decide,⟨rfl,fun h => absurd h (Nat.lt_irrefl _)⟩,Nat.le_refl _,by decide,by decide⟩⟩
theorem opX_V {w : World} {k q : Int} {ty : List TyN} {x : NodA} {t nd : List Value} (ht : TyV w ty t) (hx : NodV w x nd) : OpV w (opX k q ty x) (opC (opX k q ty x) t nd (.slice none 0 0)) := ⟨t,nd,none,0,0,rfl,ht,hx,⟨rfl,fun h => absurd h (Nat.lt_irrefl _)⟩,Nat.le_refl _,by decide,by decide⟩
theorem pat_V {w : World} {X : List OX} {g m : Nat} {t : TypeId} {cs : List Value} (hb : Blk w g t cs) (hc : cs = oxsC X) (hl : cs.length = m * 28) (hX : ∀ y ∈ X,OpV w y.o y.cs) (hm : m ≤ 1000) : PatV w ⟨2,3,4,[],0,X.map (·.o),⟨#[]⟩⟩ [.int .i64 2,.int .i64 3,.int .i64 4,.slice none 0 0,.int .i64 0,.slice (some ⟨g,0,none⟩) m m,.string ⟨#[]⟩] :=
 ⟨X,none,0,0,some ⟨g,0,none⟩,m,m,rfl,⟨⟨rfl,fun h => absurd h (Nat.lt_irrefl _)⟩,Nat.le_refl _,by decide,by decide,⟨by rw [← hc];exact hl,fun _ => ⟨g,0,rfl,hb.lt,fun j u hu => by rw [hb.cell,Nat.zero_add,hc];exact hu⟩⟩,hX,rfl,Nat.le_refl _,by omega,by omega⟩⟩
theorem nodV_ty {w : World} {x : NodA} {a0 a1 a2 a3 a4 a5 a6 a7 a8 a9 a10 a11 : Value} (h : NodV w x [a0,a1,a2,a3,a4,a5,a6,a7,a8,a9,a10,a11]) : TyV w x.ty [a5,a6,a7,a8,a9] := by
 obtain ⟨t,A,n,c,B,m,d,h1,h2⟩ := h
 obtain ⟨t0,t1,t2,t3,t4,rfl⟩ := list5 t h2.ty.len
 have h3 : [a0,a1,a2,a3,a4,a5,a6,a7,a8,a9,a10,a11] = [.int .i64 x.k,.int .i64 x.n,.int .i64 x.ref.s,.int .i64 x.ref.q,.int .i64 x.ref.i,t0,t1,t2,t3,t4,.slice A n c,.slice B m d] := h1
 simp only [List.cons.injEq,and_true] at h3
 obtain ⟨_,_,_,_,_,e0,e1,e2,e3,e4,_⟩ := h3
 rw [e0,e1,e2,e3,e4]
 exact h2.ty
theorem walk_nodes (x y z : Int) (w : World) (hx : -9223372036854775808 ≤ x ∧ x ≤ 9223372036854775807) (hy : -9223372036854775808 ≤ y ∧ y ≤ 9223372036854775807) (hz : -9223372036854775808 ≤ z ∧ z ≤ 9223372036854775807) (hC : CTab w) (hU : STab w) :
  Calls Tryz.prog 3 #[.int .i64 x,.int .i64 y,.int .i64 z] w fun e w' => e = .returned (.bool true) ∧ Ext w w' := by
 have q17 := tdivk y 17 hy.1 hy.2 (by decide)
 have e17 : wrap64 (y.tdiv 17) = y.tdiv 17 := by unfold wrap64;omega
 have HO1 : Hid (∀ W,Calls Tryz.prog 4 #[.int .i64 x,.int .i64 y] W fun e w' => (∃ n cs,e = .returned (.agg cs.toArray) ∧ NodV w' n cs ∧ OddW n) ∧ Ext W w') := hid (fun W => (rodd_any x y W hx.1 hx.2 hy.1 hy.2).mono fun e w' ⟨⟨n,cs,h1,h2,h3,h4,h5,h6,h7⟩,h8⟩ => ⟨⟨n,cs,h1,h2,⟨h3,h4,h5,h6,h7⟩⟩,h8⟩)
 have HO2 : Hid (∀ W,Calls Tryz.prog 4 #[.int .i64 z,.int .i64 (wrap64 (y.tdiv 17))] W fun e w' => (∃ n cs,e = .returned (.agg cs.toArray) ∧ NodV w' n cs ∧ OddW n) ∧ Ext W w') := hid (fun W => by rw [e17];exact (rodd_any z (y.tdiv 17) W hz.1 hz.2 q17.1 q17.2).mono fun e w' ⟨⟨n,cs,h1,h2,h3,h4,h5,h6,h7⟩,h8⟩ => ⟨⟨n,cs,h1,h2,⟨h3,h4,h5,h6,h7⟩⟩,h8⟩)
 have HVP : Hid (∀ (W : World) (p : PatA) (cs : List Value),Ext w W → PatV W p cs → PatW p → p.needs = [] → Calls Tryz.prog 5 #[.agg cs.toArray] W fun e w' => e = .returned (.int .i64 (validP p)) ∧ Ext W w') := hid (fun W p cs hW h1 h2 h3 => pvalidE_any p cs W h1 h2 h3 (hC.below hW) (hU.below hW))
 have HVR : Hid (∀ (W : World) (p : PatA) (cs : List Value),Ext w W → PatV W p cs → PatW p → p.needs = [] → Calls Tryz.prog 6 #[.agg cs.toArray] W fun e w' => e = .returned (.int .i64 (validP p)) ∧ Ext W w') := hid (fun W p cs hW h1 h2 h3 => rpvalidE_any p cs W h1 h2 h3)
 have HLV : Hid (∀ W,Ext w W → Calls Tryz.prog 7 #[] W fun e w' => e = .returned (.bool true) ∧ Ext W w') := hid (fun W hW => lives_any W (hC.below hW) (hU.below hW))
 clear hx hy hz hC hU q17 e17
 go_enter Tryz.func3,Tryz.ntmps3
 go_upto_region 3 with (first
  | (go_at_call 4;(with_reducible refine (HO1.out w).mono ?_);rintro e w1 ⟨⟨n1,cs1,rfl,hv1,ho1⟩,hE1⟩;have V1 := hid hv1;have O1 := hid ho1;have E1 : Hid (Ext w w1) := hid hE1;have HL1 : Hid (cs1.length = 12) := hid hv1.len;have HN1 : Hid (∀ v ∈ cs1,v.oneCell' = true) := hid hv1.one;clear hv1 ho1 hE1)
  | (refine wpList_store_freshw rfl 30 (.tmp 7) (.tmp 14) rfl w1.heap.size rfl nodZ cs1 30 (by kernel_rfl) (by kernel_rfl) (nod_info.trans (congrArg some HL1.out.symm)) (Eq.trans (b := 12) rfl HL1.out.symm) HN1.out ?_;intro w2 hw2 hE2 hz2;have E2 : Hid (Ext w w2) := hid (E1.out.next hE2);have B2 := hid hw2;have V2 := hid (V1.out.ext hE2);clear hw2 hE2 hz2)
  | (go_at_call 4;(with_reducible refine (HO2.out w2).mono ?_);rintro e w3 ⟨⟨n2,cs2,rfl,hv3,ho3⟩,hE3⟩;have V3 := hid hv3;have O3 := hid ho3;have E3 : Hid (Ext w w3) := hid (E2.out.next hE3);have B3 := hid (B2.out.ext hE3);have U3 := hid (V2.out.ext hE3);have HL3 : Hid (cs2.length = 12) := hid hv3.len;have HN3 : Hid (∀ v ∈ cs2,v.oneCell' = true) := hid hv3.one;clear hv3 ho3 hE3)
  | (refine wpList_store_freshw rfl 30 (.tmp 8) (.tmp 18) rfl w3.heap.size rfl nodZ cs2 30 (by kernel_rfl) (by kernel_rfl) (nod_info.trans (congrArg some HL3.out.symm)) (Eq.trans (b := 12) rfl HL3.out.symm) HN3.out ?_;intro w4 hw4 hE4 hz4;have E4 : Hid (Ext w w4) := hid (E3.out.next hE4);have B4 := hid hw4;have A4 := hid (B3.out.ext hE4);have V4 := hid (V3.out.ext hE4);have U4 := hid (U3.out.ext hE4);clear hw4 hE4 hz4))
 obtain ⟨g1,hg1⟩ : ∃ g,g = w1.heap.size := ⟨_,rfl⟩
 obtain ⟨g2,hg2⟩ : ∃ g,g = w3.heap.size := ⟨_,rfl⟩
 rw [← hg1] at A4 ⊢
 rw [← hg2] at B4 ⊢
 clear hg1 hg2 E1 E2 E3 B2 B3 V1 V2 V3 U3 HO1 HO2 HN1 HN3
 obtain ⟨a0,a1,a2,a3,a4,a5,a6,a7,a8,a9,a10,a11,rfl⟩ := list12 cs1 HL1.out
 obtain ⟨b0,b1,b2,b3,b4,b5,b6,b7,b8,b9,b10,b11,rfl⟩ := list12 cs2 HL3.out
 clear HL1 HL3
 simp only [Act.put]
 go_upto_region 4 with (first
  | (refine wpList_load_blk rfl 30 (.tmp 7) rfl g1 (by kernel_rfl) A4.out Tryz.underlying30 rfl (nod_info.trans rfl) ?_)
  | (refine wpList_load_blk rfl 30 (.tmp 8) rfl g2 (by kernel_rfl) B4.out Tryz.underlying30 rfl (nod_info.trans rfl) ?_))
 obtain ⟨w5,hw5⟩ : ∃ x,x = (w4.alloc (.cells #[.int .i64 4,.int .i64 0,.int .i64 0,.int .i64 0,.int .i64 0,.int .i64 0,.int .i64 0,.int .i64 0,.int .i64 0,.string ⟨#[]⟩,.int .i64 0,.int .i64 0,.int .i64 0,.int .i64 0,.slice none 0 0,a0,a1,a2,a3,a4,a5,a6,a7,a8,a9,a10,a11,.slice none 0 0,.int .i64 12,.int .i64 0,.int .i64 1,.int .i64 0,.int .i64 0,.int .i64 0,.int .i64 0,.int .i64 0,.int .i64 0,.string ⟨#[]⟩,.int .i64 0,.int .i64 0,.int .i64 0,.int .i64 0,.slice none 0 0,b0,b1,b2,b3,b4,b5,b6,b7,b8,b9,b10,b11,.slice none 0 0] 33)).alloc (.cells #[.int .i64 2,.int .i64 3,.int .i64 4,.slice none 0 0,.int .i64 0,.slice (some ⟨w4.heap.size,0,none⟩) 2 2,.string ⟨#[]⟩] 37) := ⟨_,rfl⟩
 rw [← hw5]
 obtain ⟨gp,hgp⟩ : ∃ x,x = w4.heap.size := ⟨_,rfl⟩
 have Ew5 : Hid (Ext w4 w5) := hid (by rw [hw5];exact ((Ext.refl w4).alloc _).alloc _)
 have BOw5 : Hid (Blk w5 gp 33 [.int .i64 4,.int .i64 0,.int .i64 0,.int .i64 0,.int .i64 0,.int .i64 0,.int .i64 0,.int .i64 0,.int .i64 0,.string ⟨#[]⟩,.int .i64 0,.int .i64 0,.int .i64 0,.int .i64 0,.slice none 0 0,a0,a1,a2,a3,a4,a5,a6,a7,a8,a9,a10,a11,.slice none 0 0,.int .i64 12,.int .i64 0,.int .i64 1,.int .i64 0,.int .i64 0,.int .i64 0,.int .i64 0,.int .i64 0,.int .i64 0,.string ⟨#[]⟩,.int .i64 0,.int .i64 0,.int .i64 0,.int .i64 0,.slice none 0 0,b0,b1,b2,b3,b4,b5,b6,b7,b8,b9,b10,b11,.slice none 0 0]) := hid (by rw [hw5,hgp];exact (Blk.fresh' _ _ _ _ _ rfl rfl).alloc _)
 have BPw5 : Hid (Blk w5 (gp + 1) 37 [.int .i64 2,.int .i64 3,.int .i64 4,.slice none 0 0,.int .i64 0,.slice (some ⟨gp,0,none⟩) 2 2,.string ⟨#[]⟩]) := hid (by rw [hw5,hgp];exact Blk.fresh' _ _ _ _ _ rfl (by simp))
 rw [← hgp]
 clear hw5 hgp
 have A5 := hid (A4.out.ext Ew5.out)
 have U5 := hid (U4.out.ext Ew5.out)
 have V5 := hid (V4.out.ext Ew5.out)
 clear A4 B4 U4 V4
 go_upto_region 5 with (refine wpList_load_blk rfl 30 (.tmp 7) rfl g1 (by kernel_rfl) A5.out Tryz.underlying30 rfl (nod_info.trans rfl) ?_)
 obtain ⟨w6,hw6⟩ : ∃ x,x = (w5.alloc (.cells #[.int .i64 12,.int .i64 0,.int .i64 1,.int .i64 0,.int .i64 0,.int .i64 0,.int .i64 0,.int .i64 0,.int .i64 0,.string ⟨#[]⟩,.int .i64 0,.int .i64 0,.int .i64 0,.int .i64 0,.slice none 0 0,a0,a1,a2,a3,a4,a5,a6,a7,a8,a9,a10,a11,.slice none 0 0] 33)).alloc (.cells #[.int .i64 2,.int .i64 3,.int .i64 4,.slice none 0 0,.int .i64 0,.slice (some ⟨w5.heap.size,0,none⟩) 1 1,.string ⟨#[]⟩] 37) := ⟨_,rfl⟩
 rw [← hw6]
 obtain ⟨gq,hgq⟩ : ∃ x,x = w5.heap.size := ⟨_,rfl⟩
 have Ew6 : Hid (Ext w5 w6) := hid (by rw [hw6];exact ((Ext.refl w5).alloc _).alloc _)
 have BOw6 : Hid (Blk w6 gq 33 [.int .i64 12,.int .i64 0,.int .i64 1,.int .i64 0,.int .i64 0,.int .i64 0,.int .i64 0,.int .i64 0,.int .i64 0,.string ⟨#[]⟩,.int .i64 0,.int .i64 0,.int .i64 0,.int .i64 0,.slice none 0 0,a0,a1,a2,a3,a4,a5,a6,a7,a8,a9,a10,a11,.slice none 0 0]) := hid (by rw [hw6,hgq];exact (Blk.fresh' _ _ _ _ _ rfl rfl).alloc _)
 have BPw6 : Hid (Blk w6 (gq + 1) 37 [.int .i64 2,.int .i64 3,.int .i64 4,.slice none 0 0,.int .i64 0,.slice (some ⟨gq,0,none⟩) 1 1,.string ⟨#[]⟩]) := hid (by rw [hw6,hgq];exact Blk.fresh' _ _ _ _ _ rfl (by simp))
 rw [← hgq]
 clear hw6 hgq
 have A6 := hid (A5.out.ext Ew6.out)
 have U6 := hid (U5.out.ext Ew6.out)
 have V6 := hid (V5.out.ext Ew6.out)
 have T6 := hid (nodV_ty U6.out)
 have RT6 := hid (range_mid A6.out.range 5 [a5,a6,a7,a8,a9] rfl)
 clear A5 U5 V5
 go_upto_region 6 with ((with_reducible refine wpList_load_row 26 g1 5 [a5,a6,a7,a8,a9] RT6.out Tryz.underlying26 rfl (ty_info.trans rfl) ?_ ?_ ?_);kernel_rfl;rfl)
 obtain ⟨w7,hw7⟩ : ∃ x,x = (w6.alloc (.cells #[.int .i64 10,.int .i64 0,.int .i64 1,.int .i64 0,.int .i64 0,.int .i64 0,.int .i64 0,.int .i64 0,.int .i64 0,.string ⟨#[]⟩,a5,a6,a7,a8,a9,.int .i64 0,.int .i64 0,.int .i64 0,.int .i64 0,.int .i64 0,.int .i64 0,.int .i64 0,.int .i64 0,.int .i64 0,.slice none 0 0,.slice none 0 0,.slice none 0 0,.slice none 0 0] 33)).alloc (.cells #[.int .i64 2,.int .i64 3,.int .i64 4,.slice none 0 0,.int .i64 0,.slice (some ⟨w6.heap.size,0,none⟩) 1 1,.string ⟨#[]⟩] 37) := ⟨_,rfl⟩
 rw [← hw7]
 obtain ⟨gr,hgr⟩ : ∃ x,x = w6.heap.size := ⟨_,rfl⟩
 have Ew7 : Hid (Ext w6 w7) := hid (by rw [hw7];exact ((Ext.refl w6).alloc _).alloc _)
 have BOw7 : Hid (Blk w7 gr 33 [.int .i64 10,.int .i64 0,.int .i64 1,.int .i64 0,.int .i64 0,.int .i64 0,.int .i64 0,.int .i64 0,.int .i64 0,.string ⟨#[]⟩,a5,a6,a7,a8,a9,.int .i64 0,.int .i64 0,.int .i64 0,.int .i64 0,.int .i64 0,.int .i64 0,.int .i64 0,.int .i64 0,.int .i64 0,.slice none 0 0,.slice none 0 0,.slice none 0 0,.slice none 0 0]) := hid (by rw [hw7,hgr];exact (Blk.fresh' _ _ _ _ _ rfl rfl).alloc _)
 have BPw7 : Hid (Blk w7 (gr + 1) 37 [.int .i64 2,.int .i64 3,.int .i64 4,.slice none 0 0,.int .i64 0,.slice (some ⟨gr,0,none⟩) 1 1,.string ⟨#[]⟩]) := hid (by rw [hw7,hgr];exact Blk.fresh' _ _ _ _ _ rfl (by simp))
 rw [← hgr]
 clear hw7 hgr
 have E7 : Hid (Ext w w7) := hid (E4.out.next (Ew5.out.next (Ew6.out.next Ew7.out)))
 have HP1 : Hid (∀ W,Ext w7 W → PatV W ⟨2,3,4,[],0,[opX 4 0 tyZ n1,opX 12 1 tyZ n2],⟨#[]⟩⟩ [.int .i64 2,.int .i64 3,.int .i64 4,.slice none 0 0,.int .i64 0,.slice (some ⟨gp,0,none⟩) 2 2,.string ⟨#[]⟩]) := hid (fun W hW => by
  have hE : Ext w6 W := Ew7.out.next hW
  exact pat_V (X := [⟨opX 4 0 tyZ n1,[.int .i64 4,.int .i64 0,.int .i64 0,.int .i64 0,.int .i64 0,.int .i64 0,.int .i64 0,.int .i64 0,.int .i64 0,.string ⟨#[]⟩,.int .i64 0,.int .i64 0,.int .i64 0,.int .i64 0,.slice none 0 0,a0,a1,a2,a3,a4,a5,a6,a7,a8,a9,a10,a11,.slice none 0 0]⟩,⟨opX 12 1 tyZ n2,[.int .i64 12,.int .i64 0,.int .i64 1,.int .i64 0,.int .i64 0,.int .i64 0,.int .i64 0,.int .i64 0,.int .i64 0,.string ⟨#[]⟩,.int .i64 0,.int .i64 0,.int .i64 0,.int .i64 0,.slice none 0 0,b0,b1,b2,b3,b4,b5,b6,b7,b8,b9,b10,b11,.slice none 0 0]⟩]) (BOw5.out.ext (Ew6.out.next hE)) rfl rfl (fun y hy => by
   rcases List.mem_cons.1 hy with rfl | hy
   ·exact opX_V (tyZ_V W) (U6.out.ext hE)
   ·rw [List.mem_singleton.1 hy];exact opX_V (tyZ_V W) (V6.out.ext hE)) (by decide))
 have HP2 : Hid (∀ W,Ext w7 W → PatV W ⟨2,3,4,[],0,[opX 12 1 tyZ n1],⟨#[]⟩⟩ [.int .i64 2,.int .i64 3,.int .i64 4,.slice none 0 0,.int .i64 0,.slice (some ⟨gq,0,none⟩) 1 1,.string ⟨#[]⟩]) := hid (fun W hW => by
  have hE : Ext w6 W := Ew7.out.next hW
  exact pat_V (X := [⟨opX 12 1 tyZ n1,[.int .i64 12,.int .i64 0,.int .i64 1,.int .i64 0,.int .i64 0,.int .i64 0,.int .i64 0,.int .i64 0,.int .i64 0,.string ⟨#[]⟩,.int .i64 0,.int .i64 0,.int .i64 0,.int .i64 0,.slice none 0 0,a0,a1,a2,a3,a4,a5,a6,a7,a8,a9,a10,a11,.slice none 0 0]⟩]) (BOw6.out.ext hE) rfl rfl (fun y hy => by rw [List.mem_singleton.1 hy];exact opX_V (tyZ_V W) (U6.out.ext hE)) (by decide))
 have HP3 : Hid (∀ W,Ext w7 W → PatV W ⟨2,3,4,[],0,[opX 10 1 n1.ty nodZ1],⟨#[]⟩⟩ [.int .i64 2,.int .i64 3,.int .i64 4,.slice none 0 0,.int .i64 0,.slice (some ⟨gr,0,none⟩) 1 1,.string ⟨#[]⟩]) := hid (fun W hW => by
  have hE : Ext w6 W := Ew7.out.next hW
  exact pat_V (X := [⟨opX 10 1 n1.ty nodZ1,[.int .i64 10,.int .i64 0,.int .i64 1,.int .i64 0,.int .i64 0,.int .i64 0,.int .i64 0,.int .i64 0,.int .i64 0,.string ⟨#[]⟩,a5,a6,a7,a8,a9,.int .i64 0,.int .i64 0,.int .i64 0,.int .i64 0,.int .i64 0,.int .i64 0,.int .i64 0,.int .i64 0,.int .i64 0,.slice none 0 0,.slice none 0 0,.slice none 0 0,.slice none 0 0]⟩]) (BOw7.out.ext hW) rfl rfl (fun y hy => by rw [List.mem_singleton.1 hy];exact opX_V (T6.out.ext hE) (nodZ1_V W)) (by decide))
 have i4 : i64 4 := by unfold i64;omega
 have i0 : i64 0 := by unfold i64;omega
 have i1 : i64 1 := by unfold i64;omega
 have i12 : i64 12 := by unfold i64;omega
 have i10 : i64 10 := by unfold i64;omega
 have W1 : PatW ⟨2,3,4,[],0,[opX 4 0 tyZ n1,opX 12 1 tyZ n2],⟨#[]⟩⟩ := pat_few _ (fun o ho => by
  rcases List.mem_cons.1 ho with rfl | ho
  ·exact opZ_enc 4 0 n1 i4 i0 O1.out
  ·rw [List.mem_singleton.1 ho];exact opZ_enc 12 1 n2 i12 i1 O3.out) (by simp)
 have W2 : PatW ⟨2,3,4,[],0,[opX 12 1 tyZ n1],⟨#[]⟩⟩ := pat_few _ (fun o ho => by rw [List.mem_singleton.1 ho];exact opZ_enc 12 1 n1 i12 i1 O1.out) (by simp)
 have W3 : PatW ⟨2,3,4,[],0,[opX 10 1 n1.ty nodZ1],⟨#[]⟩⟩ := pat_few _ (fun o ho => by rw [List.mem_singleton.1 ho];exact opT_enc 10 1 n1.ty i10 i1 O1.out.w.ty O1.out.l4) (by simp)
 obtain ⟨Q1,hQ1⟩ : ∃ q,q = validP ⟨2,3,4,[],0,[opX 4 0 tyZ n1,opX 12 1 tyZ n2],⟨#[]⟩⟩ := ⟨_,rfl⟩
 have HVP1 : Hid (∀ W,Ext w7 W → Calls Tryz.prog 5 #[.agg #[.int .i64 2,.int .i64 3,.int .i64 4,.slice none 0 0,.int .i64 0,.slice (some ⟨gp,0,none⟩) 2 2,.string ⟨#[]⟩]] W fun e w' => e = .returned (.int .i64 Q1) ∧ Ext W w') := hid (fun W hW => by rw [hQ1];exact HVP.out W _ _ (E7.out.next hW) (HP1.out W hW) W1 rfl)
 have HVR1 : Hid (∀ W,Ext w7 W → Calls Tryz.prog 6 #[.agg #[.int .i64 2,.int .i64 3,.int .i64 4,.slice none 0 0,.int .i64 0,.slice (some ⟨gp,0,none⟩) 2 2,.string ⟨#[]⟩]] W fun e w' => e = .returned (.int .i64 Q1) ∧ Ext W w') := hid (fun W hW => by rw [hQ1];exact HVR.out W _ _ (E7.out.next hW) (HP1.out W hW) W1 rfl)
 clear hQ1
 obtain ⟨Q2,hQ2⟩ : ∃ q,q = validP ⟨2,3,4,[],0,[opX 12 1 tyZ n1],⟨#[]⟩⟩ := ⟨_,rfl⟩
 have HVP2 : Hid (∀ W,Ext w7 W → Calls Tryz.prog 5 #[.agg #[.int .i64 2,.int .i64 3,.int .i64 4,.slice none 0 0,.int .i64 0,.slice (some ⟨gq,0,none⟩) 1 1,.string ⟨#[]⟩]] W fun e w' => e = .returned (.int .i64 Q2) ∧ Ext W w') := hid (fun W hW => by rw [hQ2];exact HVP.out W _ _ (E7.out.next hW) (HP2.out W hW) W2 rfl)
 have HVR2 : Hid (∀ W,Ext w7 W → Calls Tryz.prog 6 #[.agg #[.int .i64 2,.int .i64 3,.int .i64 4,.slice none 0 0,.int .i64 0,.slice (some ⟨gq,0,none⟩) 1 1,.string ⟨#[]⟩]] W fun e w' => e = .returned (.int .i64 Q2) ∧ Ext W w') := hid (fun W hW => by rw [hQ2];exact HVR.out W _ _ (E7.out.next hW) (HP2.out W hW) W2 rfl)
 clear hQ2
 obtain ⟨Q3,hQ3⟩ : ∃ q,q = validP ⟨2,3,4,[],0,[opX 10 1 n1.ty nodZ1],⟨#[]⟩⟩ := ⟨_,rfl⟩
 have HVP3 : Hid (∀ W,Ext w7 W → Calls Tryz.prog 5 #[.agg #[.int .i64 2,.int .i64 3,.int .i64 4,.slice none 0 0,.int .i64 0,.slice (some ⟨gr,0,none⟩) 1 1,.string ⟨#[]⟩]] W fun e w' => e = .returned (.int .i64 Q3) ∧ Ext W w') := hid (fun W hW => by rw [hQ3];exact HVP.out W _ _ (E7.out.next hW) (HP3.out W hW) W3 rfl)
 have HVR3 : Hid (∀ W,Ext w7 W → Calls Tryz.prog 6 #[.agg #[.int .i64 2,.int .i64 3,.int .i64 4,.slice none 0 0,.int .i64 0,.slice (some ⟨gr,0,none⟩) 1 1,.string ⟨#[]⟩]] W fun e w' => e = .returned (.int .i64 Q3) ∧ Ext W w') := hid (fun W hW => by rw [hQ3];exact HVR.out W _ _ (E7.out.next hW) (HP3.out W hW) W3 rfl)
 clear hQ3
 have BP1 : Hid (∀ W,Ext w7 W → Blk W (gp + 1) 37 [.int .i64 2,.int .i64 3,.int .i64 4,.slice none 0 0,.int .i64 0,.slice (some ⟨gp,0,none⟩) 2 2,.string ⟨#[]⟩]) := hid (fun W hW => BPw5.out.ext (Ew6.out.next (Ew7.out.next hW)))
 have BP2 : Hid (∀ W,Ext w7 W → Blk W (gq + 1) 37 [.int .i64 2,.int .i64 3,.int .i64 4,.slice none 0 0,.int .i64 0,.slice (some ⟨gq,0,none⟩) 1 1,.string ⟨#[]⟩]) := hid (fun W hW => BPw6.out.ext (Ew7.out.next hW))
 have BP3 : Hid (∀ W,Ext w7 W → Blk W (gr + 1) 37 [.int .i64 2,.int .i64 3,.int .i64 4,.slice none 0 0,.int .i64 0,.slice (some ⟨gr,0,none⟩) 1 1,.string ⟨#[]⟩]) := hid (fun W hW => BPw7.out.ext hW)
 clear W1 W2 W3 i4 i0 i1 i12 i10 HP1 HP2 HP3 HVP HVR BOw5 BOw6 BOw7 BPw5 BPw6 BPw7 Ew5 Ew6 Ew7 A6 U6 V6 T6 RT6 E4 O1 O3
 refine wp_region_flowF 23 ?FW1 (fun us => ?_) (by kernel_rfl) (by kernel_rfl) (fun a b => Ext a b) Ext.refl (fun h1 h2 => h1.next h2) (fun fi v W => match fi with
  | 0 => v = .agg #[.int .i64 2,.int .i64 3,.int .i64 4,.slice none 0 0,.int .i64 0,.slice (some ⟨gp,0,none⟩) 2 2,.string ⟨#[]⟩]
  | 1 => v = .int .i64 Q1
  | 2 => v = .agg #[.int .i64 2,.int .i64 3,.int .i64 4,.slice none 0 0,.int .i64 0,.slice (some ⟨gp,0,none⟩) 2 2,.string ⟨#[]⟩]
  | 3 => v = .int .i64 Q1
  | 4 => v = .bool true
  | 5 => v = .bool true
  | 6 => v = .agg #[.int .i64 2,.int .i64 3,.int .i64 4,.slice none 0 0,.int .i64 0,.slice (some ⟨gq,0,none⟩) 1 1,.string ⟨#[]⟩]
  | 7 => v = .int .i64 Q2
  | 8 => v = .agg #[.int .i64 2,.int .i64 3,.int .i64 4,.slice none 0 0,.int .i64 0,.slice (some ⟨gq,0,none⟩) 1 1,.string ⟨#[]⟩]
  | 9 => v = .int .i64 Q2
  | 10 => v = .bool true
  | 11 => v = .bool true
  | 12 => v = .bool true
  | 13 => v = .agg #[.int .i64 2,.int .i64 3,.int .i64 4,.slice none 0 0,.int .i64 0,.slice (some ⟨gr,0,none⟩) 1 1,.string ⟨#[]⟩]
  | 14 => v = .int .i64 Q3
  | 15 => v = .agg #[.int .i64 2,.int .i64 3,.int .i64 4,.slice none 0 0,.int .i64 0,.slice (some ⟨gr,0,none⟩) 1 1,.string ⟨#[]⟩]
  | 16 => v = .int .i64 Q3
  | 17 => v = .bool true
  | 18 => v = .bool true
  | 19 => v = .bool true
  | 20 => v = .bool true
  | 21 => v = .bool true
  | 22 => v = .bool true
  | _ => True) ?_ ?_
 case refine_1 =>
  simp only [List.take_succ_cons,List.take_zero,flowAct,Nat.zero_add,Nat.reduceAdd,Act.put,List.setIfInBounds_toArray,List.set_cons_succ,List.set_cons_zero]
  rfl
 ·simp only [List.take_succ_cons,List.take_zero,flowStepsF]
  refine ⟨?_,?_,?_,?_,?_,?_,?_,?_,?_,?_,?_,?_,?_,?_,?_,?_,?_,?_,?_,?_,?_,?_,?_,trivial⟩
  ·intro us W K hE hd hK
   have BW := hid (BP1.out W (sg_undrew hE))
   dsimp only at hK ⊢
   have HK := hid hK;have HE := hid hE
   clear hK hd hE
   go_wp2_with ((refine wpList_load_want (by rfl) 37 (.tmp 9) rfl (gp + 1) (by kernel_rfl) BW.out Tryz.underlying37 rfl (info_pat.trans rfl) ?_))
   exact K_at (HK.out (.agg #[.int .i64 2,.int .i64 3,.int .i64 4,.slice none 0 0,.int .i64 0,.slice (some ⟨gp,0,none⟩) 2 2,.string ⟨#[]⟩]) W (fun _ _ => rfl) (Ext.refl W)) (by kernel_rfl)
  ·intro us W K hE hd hK
   have d0 := hd 0 (by kernel_rfl)
   have HSW := hid (HVP1.out W (sg_undrew hE))
   dsimp only at hK ⊢
   rw [d0] at hK ⊢
   have HK := hid hK;have HE := hid hE
   clear hK hd hE d0
   go_wp2_with ((go_at_call 5;(with_reducible refine HSW.out.mono ?_);rintro e w8 ⟨rfl,hB8⟩))
   exact K_at (HK.out (.int .i64 Q1) w8 (fun _ _ => rfl) hB8) (by kernel_rfl)
  ·intro us W K hE hd hK
   have BW := hid (BP1.out W (sg_undrew hE))
   dsimp only at hK ⊢
   have HK := hid hK;have HE := hid hE
   clear hK hd hE
   go_wp2_with ((refine wpList_load_want (by rfl) 37 (.tmp 9) rfl (gp + 1) (by kernel_rfl) BW.out Tryz.underlying37 rfl (info_pat.trans rfl) ?_))
   exact K_at (HK.out (.agg #[.int .i64 2,.int .i64 3,.int .i64 4,.slice none 0 0,.int .i64 0,.slice (some ⟨gp,0,none⟩) 2 2,.string ⟨#[]⟩]) W (fun _ _ => rfl) (Ext.refl W)) (by kernel_rfl)
  ·intro us W K hE hd hK
   have d2 := hd 2 (by kernel_rfl)
   have HSW := hid (HVR1.out W (sg_undrew hE))
   dsimp only at hK ⊢
   rw [d2] at hK ⊢
   have HK := hid hK;have HE := hid hE
   clear hK hd hE d2
   go_wp2_with ((go_at_call 6;(with_reducible refine HSW.out.mono ?_);rintro e w8 ⟨rfl,hB8⟩))
   exact K_at (HK.out (.int .i64 Q1) w8 (fun _ _ => rfl) hB8) (by kernel_rfl)
  ·intro us W K hE hd hK
   have d1 := hd 1 (by kernel_rfl)
   have d3 := hd 3 (by kernel_rfl)
   dsimp only at hK ⊢
   rw [d1,d3] at hK ⊢
   have HK := hid hK;have HE := hid hE
   clear hK hd hE d1 d3
   go_wp2_with fail
   exact K_at (HK.out (.bool true) W (fun _ _ => rfl) (Ext.refl W)) (by kernel_rfl)
  ·intro us W K hE hd hK
   have d4 := hd 4 (by kernel_rfl)
   dsimp only at hK ⊢
   rw [d4] at hK ⊢
   have HK := hid hK;have HE := hid hE
   clear hK hd hE d4
   go_wp2_with fail
   exact K_at (HK.out (.bool true) W (fun _ _ => rfl) (Ext.refl W)) (by kernel_rfl)
  ·intro us W K hE hd hK
   have d5 := hd 5 (by kernel_rfl)
   have BW := hid (BP2.out W (sg_undrew hE))
   dsimp only at hK ⊢
   rw [d5] at hK ⊢
   have HK := hid hK;have HE := hid hE
   clear hK hd hE d5
   go_wp2_with ((refine wpList_load_want (by rfl) 37 (.tmp 10) rfl (gq + 1) (by kernel_rfl) BW.out Tryz.underlying37 rfl (info_pat.trans rfl) ?_))
   exact K_at (HK.out (.agg #[.int .i64 2,.int .i64 3,.int .i64 4,.slice none 0 0,.int .i64 0,.slice (some ⟨gq,0,none⟩) 1 1,.string ⟨#[]⟩]) W (fun _ _ => rfl) (Ext.refl W)) (by kernel_rfl)
  ·intro us W K hE hd hK
   have d5 := hd 5 (by kernel_rfl)
   have d6 := hd 6 (by kernel_rfl)
   have HSW := hid (HVP2.out W (sg_undrew hE))
   dsimp only at hK ⊢
   rw [d5,d6] at hK ⊢
   have HK := hid hK;have HE := hid hE
   clear hK hd hE d5 d6
   go_wp2_with ((go_at_call 5;(with_reducible refine HSW.out.mono ?_);rintro e w8 ⟨rfl,hB8⟩))
   exact K_at (HK.out (.int .i64 Q2) w8 (fun _ _ => rfl) hB8) (by kernel_rfl)
  ·intro us W K hE hd hK
   have d5 := hd 5 (by kernel_rfl)
   have BW := hid (BP2.out W (sg_undrew hE))
   dsimp only at hK ⊢
   rw [d5] at hK ⊢
   have HK := hid hK;have HE := hid hE
   clear hK hd hE d5
   go_wp2_with ((refine wpList_load_want (by rfl) 37 (.tmp 10) rfl (gq + 1) (by kernel_rfl) BW.out Tryz.underlying37 rfl (info_pat.trans rfl) ?_))
   exact K_at (HK.out (.agg #[.int .i64 2,.int .i64 3,.int .i64 4,.slice none 0 0,.int .i64 0,.slice (some ⟨gq,0,none⟩) 1 1,.string ⟨#[]⟩]) W (fun _ _ => rfl) (Ext.refl W)) (by kernel_rfl)
  ·intro us W K hE hd hK
   have d5 := hd 5 (by kernel_rfl)
   have d8 := hd 8 (by kernel_rfl)
   have HSW := hid (HVR2.out W (sg_undrew hE))
   dsimp only at hK ⊢
   rw [d5,d8] at hK ⊢
   have HK := hid hK;have HE := hid hE
   clear hK hd hE d5 d8
   go_wp2_with ((go_at_call 6;(with_reducible refine HSW.out.mono ?_);rintro e w8 ⟨rfl,hB8⟩))
   exact K_at (HK.out (.int .i64 Q2) w8 (fun _ _ => rfl) hB8) (by kernel_rfl)
  ·intro us W K hE hd hK
   have d5 := hd 5 (by kernel_rfl)
   have d7 := hd 7 (by kernel_rfl)
   have d9 := hd 9 (by kernel_rfl)
   dsimp only at hK ⊢
   rw [d5,d7,d9] at hK ⊢
   have HK := hid hK;have HE := hid hE
   clear hK hd hE d5 d7 d9
   go_wp2_with fail
   exact K_at (HK.out (.bool true) W (fun _ _ => rfl) (Ext.refl W)) (by kernel_rfl)
  ·intro us W K hE hd hK
   have d5 := hd 5 (by kernel_rfl)
   have d10 := hd 10 (by kernel_rfl)
   dsimp only at hK ⊢
   rw [d5,d10] at hK ⊢
   have HK := hid hK;have HE := hid hE
   clear hK hd hE d5 d10
   go_wp2_with fail
   exact K_at (HK.out (.bool true) W (fun _ _ => rfl) (Ext.refl W)) (by kernel_rfl)
  ·intro us W K hE hd hK
   have d11 := hd 11 (by kernel_rfl)
   dsimp only at hK ⊢
   rw [d11] at hK ⊢
   have HK := hid hK;have HE := hid hE
   clear hK hd hE d11
   go_wp2_with fail
   exact K_at (HK.out (.bool true) W (fun _ _ => rfl) (Ext.refl W)) (by kernel_rfl)
  ·intro us W K hE hd hK
   have d12 := hd 12 (by kernel_rfl)
   have BW := hid (BP3.out W (sg_undrew hE))
   dsimp only at hK ⊢
   rw [d12] at hK ⊢
   have HK := hid hK;have HE := hid hE
   clear hK hd hE d12
   go_wp2_with ((refine wpList_load_want (by rfl) 37 (.tmp 11) rfl (gr + 1) (by kernel_rfl) BW.out Tryz.underlying37 rfl (info_pat.trans rfl) ?_))
   exact K_at (HK.out (.agg #[.int .i64 2,.int .i64 3,.int .i64 4,.slice none 0 0,.int .i64 0,.slice (some ⟨gr,0,none⟩) 1 1,.string ⟨#[]⟩]) W (fun _ _ => rfl) (Ext.refl W)) (by kernel_rfl)
  ·intro us W K hE hd hK
   have d12 := hd 12 (by kernel_rfl)
   have d13 := hd 13 (by kernel_rfl)
   have HSW := hid (HVP3.out W (sg_undrew hE))
   dsimp only at hK ⊢
   rw [d12,d13] at hK ⊢
   have HK := hid hK;have HE := hid hE
   clear hK hd hE d12 d13
   go_wp2_with ((go_at_call 5;(with_reducible refine HSW.out.mono ?_);rintro e w8 ⟨rfl,hB8⟩))
   exact K_at (HK.out (.int .i64 Q3) w8 (fun _ _ => rfl) hB8) (by kernel_rfl)
  ·intro us W K hE hd hK
   have d12 := hd 12 (by kernel_rfl)
   have BW := hid (BP3.out W (sg_undrew hE))
   dsimp only at hK ⊢
   rw [d12] at hK ⊢
   have HK := hid hK;have HE := hid hE
   clear hK hd hE d12
   go_wp2_with ((refine wpList_load_want (by rfl) 37 (.tmp 11) rfl (gr + 1) (by kernel_rfl) BW.out Tryz.underlying37 rfl (info_pat.trans rfl) ?_))
   exact K_at (HK.out (.agg #[.int .i64 2,.int .i64 3,.int .i64 4,.slice none 0 0,.int .i64 0,.slice (some ⟨gr,0,none⟩) 1 1,.string ⟨#[]⟩]) W (fun _ _ => rfl) (Ext.refl W)) (by kernel_rfl)
  ·intro us W K hE hd hK
   have d12 := hd 12 (by kernel_rfl)
   have d15 := hd 15 (by kernel_rfl)
   have HSW := hid (HVR3.out W (sg_undrew hE))
   dsimp only at hK ⊢
   rw [d12,d15] at hK ⊢
   have HK := hid hK;have HE := hid hE
   clear hK hd hE d12 d15
   go_wp2_with ((go_at_call 6;(with_reducible refine HSW.out.mono ?_);rintro e w8 ⟨rfl,hB8⟩))
   exact K_at (HK.out (.int .i64 Q3) w8 (fun _ _ => rfl) hB8) (by kernel_rfl)
  ·intro us W K hE hd hK
   have d12 := hd 12 (by kernel_rfl)
   have d14 := hd 14 (by kernel_rfl)
   have d16 := hd 16 (by kernel_rfl)
   dsimp only at hK ⊢
   rw [d12,d14,d16] at hK ⊢
   have HK := hid hK;have HE := hid hE
   clear hK hd hE d12 d14 d16
   go_wp2_with fail
   exact K_at (HK.out (.bool true) W (fun _ _ => rfl) (Ext.refl W)) (by kernel_rfl)
  ·intro us W K hE hd hK
   have d12 := hd 12 (by kernel_rfl)
   have d17 := hd 17 (by kernel_rfl)
   dsimp only at hK ⊢
   rw [d12,d17] at hK ⊢
   have HK := hid hK;have HE := hid hE
   clear hK hd hE d12 d17
   go_wp2_with fail
   exact K_at (HK.out (.bool true) W (fun _ _ => rfl) (Ext.refl W)) (by kernel_rfl)
  ·intro us W K hE hd hK
   have d18 := hd 18 (by kernel_rfl)
   dsimp only at hK ⊢
   rw [d18] at hK ⊢
   have HK := hid hK;have HE := hid hE
   clear hK hd hE d18
   go_wp2_with fail
   exact K_at (HK.out (.bool true) W (fun _ _ => rfl) (Ext.refl W)) (by kernel_rfl)
  ·intro us W K hE hd hK
   have d19 := hd 19 (by kernel_rfl)
   have HSW := hid (HLV.out W (E7.out.next (sg_undrew hE)))
   dsimp only at hK ⊢
   rw [d19] at hK ⊢
   have HK := hid hK;have HE := hid hE
   clear hK hd hE d19
   go_wp2_with ((go_at_call 7;(with_reducible refine HSW.out.mono ?_);rintro e w8 ⟨rfl,hB8⟩))
   exact K_at (HK.out (.bool true) w8 (fun _ _ => rfl) hB8) (by kernel_rfl)
  ·intro us W K hE hd hK
   have d19 := hd 19 (by kernel_rfl)
   have d20 := hd 20 (by kernel_rfl)
   dsimp only at hK ⊢
   rw [d19,d20] at hK ⊢
   have HK := hid hK;have HE := hid hE
   clear hK hd hE d19 d20
   go_wp2_with fail
   exact K_at (HK.out (.bool true) W (fun _ _ => rfl) (Ext.refl W)) (by kernel_rfl)
  ·intro us W K hE hd hK
   have d21 := hd 21 (by kernel_rfl)
   dsimp only at hK ⊢
   rw [d21] at hK ⊢
   have HK := hid hK;have HE := hid hE
   clear hK hd hE d21
   go_wp2_with fail
   exact K_at (HK.out (.bool true) W (fun _ _ => rfl) (Ext.refl W)) (by kernel_rfl)
 ·intro us W hE hd
  try dsimp only
  have d22 := hd 22 (by decide)
  simp only [List.drop_succ_cons,List.drop_zero]
  rw [d22]
  have EW := hid (E7.out.next (sg_undrew hE))
  clear hd hE d22
  go_wp2_with fail
  go_ret
  exact ⟨rfl,EW.out⟩
end Go.Proofs.YtojcmcccahjphaaGreatDoor
/- What the proofs of all laws share: arguments that read afterwards as they read before; slices and strings that came in. No condition. -/
namespace Go.Proofs.YtojcmcccahjphaaGreatDoor
open Go.RowKit Go.WideShapes Go.ChangeShapes
open Lib (hid)
section
variable {H : Type} {enc : TypeId × Value → H} {P : Program}
theorem trodAll_keep (hl : laidOutB P = true) {W W' : World} {sp : Nat → Bool} (hb : Below W.heap.size W W') : ∀ {ts : List TypeId} {vs : List Value} {ds : List (DataW H)} {ps : List MemPlace},
  (∀ t ∈ ts,P.readableRec t = true ∧ t < P.types.size) → DataW.TrodAll enc P W 0 (fun _ => true) true ts vs ds ps → (∀ p ∈ ps,p.block < W.heap.size) → (∀ p ∈ ps,sp p.block = true) → DataW.TrodAll enc P W' 0 sp true ts vs ds ps
 | [],[],[],_,_,h,_,_ => h
 | t :: ts,v :: vs,d :: ds,_,hr,⟨p,q,h,hs,e⟩,hlt,hsp => by
  subst e
  exact ⟨p,q,WideElems.Trod_stays hl (hr t (List.mem_cons_self ..)).1 (hr t (List.mem_cons_self ..)).2 h (fun x hx => hb.same (hlt x (List.mem_append_left _ hx))) (fun x hx => hsp x (List.mem_append_left _ hx)),
   trodAll_keep hl hb (fun x hx => hr x (List.mem_cons_of_mem _ hx)) hs (fun x hx => hlt x (List.mem_append_right _ hx)) (fun x hx => hsp x (List.mem_append_right _ hx)),rfl⟩
 | [],[],_ :: _,_,_,h,_,_ => h.elim
 | [],_ :: _,_,_,_,h,_,_ => h.elim
 | _ :: _,[],_,_,_,h,_,_ => h.elim
 | _ :: _,_ :: _,[],_,_,h,_,_ => h.elim
theorem trodAll_length {w : World} {base : Nat} {sp : Nat → Bool} {held : Bool} : ∀ {ts : List TypeId} {vs : List Value} {ds : List (DataW H)} {ps : List MemPlace},DataW.TrodAll enc P w base sp held ts vs ds ps → ds.length = ts.length
 | [],[],[],_,_ => rfl
 | _ :: _,_ :: _,_ :: _,_,⟨_,_,_,hs,_⟩ => congrArg (· + 1) (trodAll_length hs)
 | [],[],_ :: _,_,h => h.elim
 | [],_ :: _,_,_,h => h.elim
 | _ :: _,[],_,_,h => h.elim
 | _ :: _,_ :: _,[],_,h => h.elim
theorem post_law {f : Func} {s : ChangeSpec} {apart fresh handsOn again : Bool} {W W' : World} {args : Array Value} {ds gs : List (DataW H)} {before : List MemPlace}
  (hW : DataW.Whole enc P f.params.toList s.vars apart W args.toList ds gs before) (hl : laidOutB P = true) (hr : ∀ t ∈ f.params.toList,P.readableRec t = true ∧ t < P.types.size) (tb : TypeId) (hres : f.resultTypes = #[tb]) (htb : P.underlying tb = some .bool)
  (hv : s.vars = []) (hfn : ∀ ds : List (DataW H),ds.length = f.params.toList.length → s.fn H ds = { results := [.lit (.bool true)],args := ds }) (hb : Below W.heap.size W W') :
  s.post enc P f apart fresh handsOn again W args (.bool true) W' := by
 have hlt : ∀ p ∈ before,p.block < W.heap.size := fun p hp => hW.lt p hp
 have hold : ∀ p ∈ before,(fun b => decide (b < W.heap.size)) p.block = true := fun p hp => by simpa using hlt p hp
 obtain ⟨pa,pv,hA,hV,hps,hfz,hnd⟩ := id hW
 rw [hv] at hV
 obtain ⟨rfl,rfl⟩ := trodVars_none hV
 have hlen := trodAll_length hA
 have hf := hfn ds hlen
 have hps' : before = pa := by simpa using hps
 subst hps'
 have hargs : ∀ sp : Nat → Bool,(∀ p ∈ before,sp p.block = true) → DataW.TrodAll enc P W' 0 sp true f.params.toList args.toList ds before := fun sp hs => trodAll_keep hl hb hr hA hlt hs
 have hrs : ∀ (b : Nat) (sp : Nat → Bool) (hd : Bool),DataW.TrodAll enc P W' b sp hd f.resultTypes.toList ((Value.bool true).resultList f.resultTypes.size) [.lit (.bool true)] [] := fun b sp hd => by
  rw [hres]
  exact trodAll_cons_mk (shut_bool htb true) trodAll_mk0
 have hok : ∀ (j : Nat) (t : TypeId) (r : Value),f.resultTypes[j]? = some t → ((Value.bool true).resultList f.resultTypes.size)[j]? = some r → Value.okWide P W' .any 0 t r := by
  exact ok_one hres rfl (okWide_bool_mk htb true)
 have e1 : (s.fn H (ds ++ [])).results = [.lit (.bool true)] := by rw [List.append_nil,hf]
 have e2 : (s.fn H (ds ++ [])).args = ds := by rw [List.append_nil,hf]
 have e3 : (s.fn H (ds ++ [])).vars = [] := by rw [List.append_nil,hf]
 have hvs : ∀ sp : Nat → Bool,DataW.TrodVars enc P W' sp s.vars (s.fn H (ds ++ [])).vars [] := fun sp => by rw [hv,e3];rfl
 refine ⟨ds,[],before,[],before,[],hW,by rw [e1];exact hrs _ _ _,by rw [e2];exact hargs _ hold,hvs _,World.keptBut_mono (fun p hp => ⟨hp,?_⟩) (hb.frame (· ∈ before)),fun _ => ?_⟩
 ·exact Or.inr (Or.inl hp)
 ·refine ⟨hok,_,_,([] ++ before) ++ [],⟨[] ++ before,[],trodAll_append (hargs _ (fun _ _ => rfl)) (hrs _ _ _),hvs _,rfl,?_,?_⟩,?_⟩
  ·intro b off hp
   have hin : MemPlace.cell b off ∈ before := by simpa using hp
   rw [hb.frozen (hlt _ hin)]
   exact hfz b off hin
  ·intro ha
   have := hnd ha
   simpa using this
  ·intro p hp _
   simpa using hp
theorem params_ok {l : List TypeId} (h : (l.all fun t => P.readableRec t && decide (t < P.types.size)) = true) : ∀ t ∈ l,P.readableRec t = true ∧ t < P.types.size := fun t ht => by
 have := List.all_eq_true.1 h t ht
 simpa using this
end
end Go.Proofs.YtojcmcccahjphaaGreatDoor
/- What the laws of this seat share. No condition. -/
namespace Go.Proofs.YtojcmcccahjphaaGreatDoor
open Go.RowKit Go.WideShapes Go.ChangeShapes
open Lib (hid)
theorem wf_i64' {x : Int} (h : (Lit.int .i64 x).wf = true) : -9223372036854775808 ≤ x ∧ x ≤ 9223372036854775807 := by
 simp [Lit.wf,IntKind.min,IntKind.max,IntKind.bits,IntKind.signed] at h
 omega
theorem own : ownKnob Tryz.prog.godebug = none := by kernel_rfl
theorem laidOut : laidOutB Tryz.prog = true := by kernel_rfl
end Go.Proofs.YtojcmcccahjphaaGreatDoor
