/- The reference of package patch: the bytes of a patch that needs no other, and its message. Conditions: PatV, PatW. -/
import Derived.Test.YtojcmcccahjphaaGreatDoorM15
set_option linter.unusedSimpArgs false
set_option linter.unusedVariables false
set_option maxHeartbeats 16000000
set_option maxRecDepth 100000
set_option maxRecDepth 100000
set_option maxHeartbeats 16000000
namespace Go.Proofs.YtojcmcccahjphaaGreatDoor
open Go.RowKit
open Lib (hid)
attribute [local go_sem ↓] wp_at_zero wp_at_succ
theorem qown_ne {w : World} {g : Nat} {t e : TypeId} {cs : List Value} {base size n : Nat} {v : Value} {xs : List Value} (hb : Blk w g t cs) (ho : w.ownsRow base e size v n xs) (he : e ≠ t) : v.ownBlock ≠ some g := fun h => by
 rcases ho.2 with ⟨h1,_⟩ | ⟨g',cap,cur,rfl,h1,h2,_⟩
 ·rw [h1] at h;cases h
 ·injection h with h
  subst h
  unfold Blk at hb
  rw [hb] at h2
  injection h2 with h2
  injection h2 with _ h2 _
  exact he h2.symm
structure OpR (w : World) (B : Option Addr) (ops : List OpA) (q : Nat) (b o : Nat) (k s q' i s2 q2 i2 N M : Int) (nam : ByteArray) (t0 t1 t2 t3 t4 e0 e1 e2 e3 e4 e5 e6 e7 e8 e9 e10 e11 : Value) (TA : Option Addr) (tn tc : Nat) (E1 E2 E3 E4 E5 : List Int) (j1 j2 j3 j4 j5 : Nat) : Prop where
 adr : B = some ⟨b,o,none⟩
 row : ∀ W,Ext w W → W.rangeAt b (o + q * 28) [.int .i64 k,.int .i64 s,.int .i64 q',.int .i64 i,.int .i64 s2,.int .i64 q2,.int .i64 i2,.int .i64 N,.int .i64 M,.string nam,t0,t1,t2,t3,t4,e0,e1,e2,e3,e4,e5,e6,e7,e8,e9,e10,e11,.slice TA tn tc]
 one : ∀ v ∈ ([.int .i64 k,.int .i64 s,.int .i64 q',.int .i64 i,.int .i64 s2,.int .i64 q2,.int .i64 i2,.int .i64 N,.int .i64 M,.string nam,t0,t1,t2,t3,t4,e0,e1,e2,e3,e4,e5,e6,e7,e8,e9,e10,e11,.slice TA tn tc] : List Value),v.oneCell' = true
 len : j1 ≤ 1000000000 ∧ j2 ≤ 1000000000 ∧ j3 ≤ 1000000000 ∧ j4 ≤ 1000000000 ∧ j5 ≤ 1000000000
 tot : ((ops.take q).flatMap encO).length + (j1 + j2 + j3 + j4 + j5) ≤ (ops.flatMap encO).length
 nxt : u8s ((ops.take (q + 1)).flatMap encO) = u8s ((ops.take q).flatMap encO) ++ u8s E1 ++ u8s E2 ++ u8s E3 ++ u8s E4 ++ u8s E5
 nxl : ((ops.take (q + 1)).flatMap encO).length = ((ops.take q).flatMap encO).length + j1 + j2 + j3 + j4 + j5
 ints : ∀ (W : World) (A : Option Addr) (c : Nat),Rd W W.heap.size A (1 + 3 + 3 + 2) (i8s [k] ++ i8s (thrI ⟨s,q',i⟩) ++ i8s (thrI ⟨s2,q2,i2⟩) ++ [.int .i64 N,.int .i64 M]) → Calls Tryz.prog 60 #[.slice A (1 + 3 + 3 + 2) c] W fun e w' => (∃ A c,e = .returned (.slice A j1 c) ∧ w'.ownsRow W.heap.size 5 1 (.slice A j1 c) j1 (u8s E1)) ∧ Below W.heap.size W w'
 byts : ∀ W : World,Calls Tryz.prog 63 #[.string nam] W fun e w' => (∃ A c,e = .returned (.slice A j2 c) ∧ w'.ownsRow W.heap.size 5 1 (.slice A j2 c) j2 (u8s E2)) ∧ Below W.heap.size W w'
 typ : ∀ W,Ext w W → Calls Tryz.prog 64 #[.agg #[t0,t1,t2,t3,t4]] W fun e w' => (∃ A c,e = .returned (.slice A j3 c) ∧ w'.ownsRow W.heap.size 5 1 (.slice A j3 c) j3 (u8s E3)) ∧ Ext W w'
 nod : ∀ W,Ext w W → Calls Tryz.prog 65 #[.agg #[e0,e1,e2,e3,e4,e5,e6,e7,e8,e9,e10,e11]] W fun e w' => (∃ A c,e = .returned (.slice A j4 c) ∧ w'.ownsRow W.heap.size 5 1 (.slice A j4 c) j4 (u8s E4)) ∧ Ext W w'
 strs : ∀ W,Ext w W → Calls Tryz.prog 66 #[.slice TA tn tc] W fun e w' => (∃ A c,e = .returned (.slice A j5 c) ∧ w'.ownsRow W.heap.size 5 1 (.slice A j5 c) j5 (u8s E5)) ∧ Below W.heap.size W w'
theorem op_ready (p : PatA) (w : World) (X : List OX) (A : Option Addr) (n c : Nat) (B : Option Addr) (m d : Nat) (hS : PatS w p X A n c B m d) (hw : PatW p) (hsz : (p.ops.flatMap encO).length ≤ 1000000000) (q : Nat) (hq : q < m) :
  ∃ (b o : Nat) (k s q' i s2 q2 i2 N M : Int) (nam : ByteArray) (t0 t1 t2 t3 t4 e0 e1 e2 e3 e4 e5 e6 e7 e8 e9 e10 e11 : Value) (TA : Option Addr) (tn tc : Nat) (E1 E2 E3 E4 E5 : List Int) (j1 j2 j3 j4 j5 : Nat),OpR w B p.ops q b o k s q' i s2 q2 i2 N M nam t0 t1 t2 t3 t4 e0 e1 e2 e3 e4 e5 e6 e7 e8 e9 e10 e11 TA tn tc E1 E2 E3 E4 E5 j1 j2 j3 j4 j5 := by
 have hl := hS.len
 obtain ⟨b,o,hA,hb,hc⟩ := hS.ops.2 (by omega)
 have hx : X[q]? = some (X[q]'(by omega)) := List.getElem?_eq_getElem _
 have hm : X[q]'(by omega) ∈ X := List.getElem_mem _
 obtain ⟨x,hxx⟩ : ∃ x,x = X[q]'(by omega) := ⟨_,rfl⟩
 rw [← hxx] at hx hm
 have ho : p.ops[q]? = some x.o := by
  have h := congrArg (fun l => l[q]?) hS.same
  try dsimp only at h
  rw [List.getElem?_map,hx] at h
  exact h.symm
 have hmo : x.o ∈ p.ops := List.mem_of_getElem? ho
 have hOW := hw.ops _ hmo
 have hV := hS.each _ hm
 have hone := hV.one
 have hlen28 := hV.len
 have hrow : ∀ W,Ext w W → W.rangeAt b (o + q * 28) x.cs := fun W hW j v hv => by
  have hj : j < 28 := by
   have h1 := (List.getElem?_eq_some_iff.1 hv).1
   rw [hlen28] at h1
   exact h1
  rw [Nat.add_assoc]
  exact (hW.cell (p := ⟨b,o + (q * 28 + j),none⟩) hb).trans (hc (q * 28 + j) v ((flatK_at oxC 28 X (fun y hy => (hS.each y hy).len) q _ hx j hj).trans hv))
 clear hxx
 obtain ⟨xo,xcs⟩ := x
 dsimp only at *
 obtain ⟨t,nd,TA,tn,tc,rfl,hOS⟩ := hV
 obtain ⟨t0,t1,t2,t3,t4,rfl⟩ := list5 t hOS.ty.len
 obtain ⟨e0,e1,e2,e3,e4,e5,e6,e7,e8,e9,e10,e11,rfl⟩ := list12 nd hOS.nod.len
 have htk : p.ops.take (q + 1) = p.ops.take q ++ [xo] := by rw [List.take_add_one,ho];rfl
 have hO : (p.ops.take (q + 1)).flatMap encO = (p.ops.take q).flatMap encO ++ encO xo := by rw [htk,List.flatMap_append];simp
 have hle := flat_le encO p.ops (q + 1)
 rw [hO,List.length_append] at hle
 have hEO : encO xo = encL encInt (opN xo) ++ encB xo.name ++ encT xo.ty ++ encN xo.node ++ encL encB xo.texts := rfl
 obtain ⟨E1,hE1⟩ : ∃ e,e = encL encInt (opN xo) := ⟨_,rfl⟩
 obtain ⟨E2,hE2⟩ : ∃ e,e = encB xo.name := ⟨_,rfl⟩
 obtain ⟨E3,hE3⟩ : ∃ e,e = encT xo.ty := ⟨_,rfl⟩
 obtain ⟨E4,hE4⟩ : ∃ e,e = encN xo.node := ⟨_,rfl⟩
 obtain ⟨E5,hE5⟩ : ∃ e,e = encL encB xo.texts := ⟨_,rfl⟩
 obtain ⟨j1,hj1⟩ : ∃ k,k = E1.length := ⟨_,rfl⟩
 obtain ⟨j2,hj2⟩ : ∃ k,k = E2.length := ⟨_,rfl⟩
 obtain ⟨j3,hj3⟩ : ∃ k,k = E3.length := ⟨_,rfl⟩
 obtain ⟨j4,hj4⟩ : ∃ k,k = E4.length := ⟨_,rfl⟩
 obtain ⟨j5,hj5⟩ : ∃ k,k = E5.length := ⟨_,rfl⟩
 have hEE : encO xo = E1 ++ E2 ++ E3 ++ E4 ++ E5 := by rw [hE1,hE2,hE3,hE4,hE5];rfl
 have hEL : (encO xo).length = j1 + j2 + j3 + j4 + j5 := by rw [hEE];simp only [List.length_append];omega
 have hN1 := opN_i64 hOW
 refine ⟨b,o,xo.k,xo.on.s,xo.on.q,xo.on.i,xo.to'.s,xo.to'.q,xo.to'.i,xo.n,xo.most,xo.name,t0,t1,t2,t3,t4,e0,e1,e2,e3,e4,e5,e6,e7,e8,e9,e10,e11,TA,tn,tc,E1,E2,E3,E4,E5,j1,j2,j3,j4,j5,⟨hA,hrow,hone,⟨by omega,by omega,by omega,by omega,by omega⟩,by omega,?_,?_,?_,?_,?_,?_,?_⟩⟩
 ·rw [hO,hEE]
  simp only [u8s_append,List.append_assoc]
 ·rw [hO,List.length_append,hEL]
  omega
 ·intro W A c hR
  have h := rints_any (opN xo) A (1 + 3 + 3 + 2) c W hR hN1 (by rw [← hE1,← hj1];omega) (by decide)
  rw [← hE1,← hj1] at h
  exact h
 ·intro W
  have h := rbytes_any xo.name W (Nat.le_trans hOW.name (by decide))
  rw [← hE2,← hj2] at h
  exact h
 ·intro W hW
  have h := rtype_any xo.ty [t0,t1,t2,t3,t4] W (hOS.ty.ext hW) hOW.ty (by rw [← hE3,← hj3];omega)
  rw [← hE3,← hj3] at h
  exact h
 ·intro W hW
  have h := rnodeb_any xo.node [e0,e1,e2,e3,e4,e5,e6,e7,e8,e9,e10,e11] W (hOS.nod.ext hW) hOW.node (by rw [← hE4,← hj4];omega)
  rw [← hE4,← hj4] at h
  exact h
 ·intro W hW
  have h := rstrings_any xo.texts TA tn tc W (hOS.ext hW).txt (fun y hy => Nat.le_trans (hOW.texts y hy) (by decide)) (by rw [← hE5,← hj5];omega) (by have := hOS.tfew;omega)
  rw [← hE5,← hj5] at h
  exact h
theorem rpbytes_any (p : PatA) (cs : List Value) (w : World) (hp : PatV w p cs) (hw : PatW p) (hn : p.needs = []) : Calls Tryz.prog 39 #[.agg cs.toArray] w fun e w' => (∃ A c,e = .returned (.slice A (encP p).length c) ∧ w'.ownsRow w.heap.size 5 1 (.slice A (encP p).length c) (encP p).length (u8s (encP p))) ∧ Ext w w' := by
 obtain ⟨i0,hi,hz0,hz1,hz2⟩ := info_parts winfo_u8
 obtain ⟨i1,hi',hz0',hz1',hz2'⟩ := info_parts winfo_int
 obtain ⟨X,A,n,c,B,m,d,rfl,hS⟩ := hp
 obtain rfl : n = 0 := by have h := hS.len.1;rw [hn] at h;exact h.symm
 have hmf : m ≤ 1000000 := hS.ofew
 have hmd : m ≤ d := hS.ole
 have hml := hS.len.2.2
 obtain ⟨e1,he1⟩ : ∃ e,e = encL encInt [p.shop,p.seq,p.day,p.clause] := ⟨_,rfl⟩
 obtain ⟨e2,he2⟩ : ∃ e,e = encL encInt [] := ⟨_,rfl⟩
 obtain ⟨e3,he3⟩ : ∃ e,e = encInt (m : Int) := ⟨_,rfl⟩
 obtain ⟨e5,he5⟩ : ∃ e,e = encB p.sl := ⟨_,rfl⟩
 obtain ⟨EA,hEA⟩ : ∃ e,e = p.ops.flatMap encO := ⟨_,rfl⟩
 have hE : encP p = e1 ++ e2 ++ e3 ++ EA ++ e5 := by rw [he1,he2,he3,he5,hEA,← hml];unfold encP;rw [hn];rfl
 obtain ⟨k1,hk1⟩ : ∃ k,k = e1.length := ⟨_,rfl⟩
 obtain ⟨k2,hk2⟩ : ∃ k,k = e2.length := ⟨_,rfl⟩
 obtain ⟨k3,hk3⟩ : ∃ k,k = e3.length := ⟨_,rfl⟩
 obtain ⟨k5,hk5⟩ : ∃ k,k = e5.length := ⟨_,rfl⟩
 obtain ⟨ka,hka⟩ : ∃ k,k = EA.length := ⟨_,rfl⟩
 have HL : Hid (k1 + k2 + k3 + ka + k5 = (encP p).length) := hid (by rw [hE];simp only [List.length_append];omega)
 have HU : Hid (u8s e1 ++ u8s e2 ++ u8s e3 ++ u8s EA ++ u8s e5 = u8s (encP p)) := hid (by rw [hE];simp only [u8s_append])
 have hsz := hw.size
 have hqq := HL.out
 have hT : k1 + k2 + k3 + ka + k5 ≤ 1000000000 := by omega
 clear hsz hqq
 have hw4 := four_i64 hw.nums
 have HI1 : Hid (∀ W : World,Calls Tryz.prog 60 #[.slice (some ⟨W.heap.size,0,none⟩) 4 4] (W.alloc (.cells #[.int .i64 p.shop,.int .i64 p.seq,.int .i64 p.day,.int .i64 p.clause] 3)) fun e w' => (∃ A c,e = .returned (.slice A k1 c) ∧ w'.ownsRow W.heap.size 5 1 (.slice A k1 c) k1 (u8s e1)) ∧ Ext W w') := hid (fun W => ints5 [p.shop,p.seq,p.day,p.clause] 4 rfl hw4 e1 he1 k1 hk1 (by omega) _ rfl (by decide) (by decide) W)
 have HI2 : Hid (∀ W : World,Calls Tryz.prog 60 #[.slice none 0 0] W fun e w' => (∃ A c,e = .returned (.slice A k2 c) ∧ w'.ownsRow W.heap.size 5 1 (.slice A k2 c) k2 (u8s e2)) ∧ Below W.heap.size W w') := hid (fun W => by
  have h := rints_any [] none 0 0 W ⟨rfl,fun h => absurd h (Nat.lt_irrefl _)⟩ (fun x hx => by cases hx) (by rw [← he2,← hk2];omega) (by decide)
  rw [← he2,← hk2] at h
  exact h)
 have HI3 : Hid (∀ W : World,Calls Tryz.prog 61 #[.int .i64 (m : Int)] W fun e w' => (∃ A c,e = .returned (.slice A k3 c) ∧ w'.ownsRow W.heap.size 5 1 (.slice A k3 c) k3 (u8s e3)) ∧ Below W.heap.size W w') := hid (fun W => by
  have h := rintL_any (m : Int) W (by omega) (by omega)
  rw [← he3,← hk3] at h
  exact h)
 have HI5 : Hid (∀ W : World,Calls Tryz.prog 63 #[.string p.sl] W fun e w' => (∃ A c,e = .returned (.slice A k5 c) ∧ w'.ownsRow W.heap.size 5 1 (.slice A k5 c) k5 (u8s e5)) ∧ Below W.heap.size W w') := hid (fun W => by
  have h := rbytes_any p.sl W (Nat.le_trans hw.sl (by decide))
  rw [← he5,← hk5] at h
  exact h)
 have HOP : Hid (∀ q : Nat,q < m → ∃ (b o : Nat) (k s q' i s2 q2 i2 N M : Int) (nam : ByteArray) (t0 t1 t2 t3 t4 e0 e1 e2 e3 e4 e5 e6 e7 e8 e9 e10 e11 : Value) (TA : Option Addr) (tn tc : Nat) (E1 E2 E3 E4 E5 : List Int) (j1 j2 j3 j4 j5 : Nat),OpR w B p.ops q b o k s q' i s2 q2 i2 N M nam t0 t1 t2 t3 t4 e0 e1 e2 e3 e4 e5 e6 e7 e8 e9 e10 e11 TA tn tc E1 E2 E3 E4 E5 j1 j2 j3 j4 j5) := hid (fun q hq => op_ready p w X A 0 c B m d hS hw (by rw [← hEA,← hka];omega) q hq)
 have HKA : Hid (EA.length = ka ∧ (p.ops.flatMap encO).length = ka) := hid ⟨hka.symm,by rw [hka,hEA]⟩
 have HTA : Hid ((p.ops.take m).flatMap encO = EA) := hid (by rw [hEA,← hml,List.take_length])
 rw [← HU.out,← HL.out]
 clear hS hw hE he1 he2 he3 he5 hk1 hk2 hk3 hk5 hka hEA hml hn hw4 HL HU
 obtain ⟨shop,seq,day,needs,clause,ops,sl⟩ := p
 dsimp only at HI1 HI5 HOP HKA HTA
 show Calls Tryz.prog 39 #[.agg #[.int .i64 shop,.int .i64 seq,.int .i64 day,.slice A 0 c,.int .i64 clause,.slice B m d,.string sl]] w _
 obtain ⟨w1,hw1⟩ : ∃ x,x = w.alloc (.cells #[.int .i64 shop,.int .i64 seq,.int .i64 day,.slice A 0 c,.int .i64 clause,.slice B m d,.string sl] 37) := ⟨_,rfl⟩
 have E1 : Hid (Ext w w1) := hid (by rw [hw1];exact (Ext.refl w).alloc _)
 have B1 : Hid (Blk w1 w.heap.size 37 [.int .i64 shop,.int .i64 seq,.int .i64 day,.slice A 0 c,.int .i64 clause,.slice B m d,.string sl]) := hid (by rw [hw1];exact Blk.fresh' _ _ _ _ _ rfl rfl)
 go_enter Tryz.func39,Tryz.ntmps39
 go_upto_region 1 with fail
 change Code.wp _ _ _ _ (w.alloc (.cells #[.int .i64 shop,.int .i64 seq,.int .i64 day,.slice A 0 c,.int .i64 clause,.slice B m d,.string sl] 37))
 rw [← hw1]
 clear hw1
 have c0 : w1.cell? ⟨w.heap.size,0,none⟩ = some (.int .i64 shop) := B1.out.cell 0
 have c1 : w1.cell? ⟨w.heap.size,1,none⟩ = some (.int .i64 seq) := B1.out.cell 1
 have c2 : w1.cell? ⟨w.heap.size,2,none⟩ = some (.int .i64 day) := B1.out.cell 2
 have c4 : w1.cell? ⟨w.heap.size,4,none⟩ = some (.int .i64 clause) := B1.out.cell 4
 go_upto_region 2 with ((go_at_call 60;(with_reducible refine (HI1.out w1).mono ?_);rintro e w2 ⟨⟨A1,a1,rfl,o1⟩,x1⟩;have O1 := hid o1;have X1 : Hid (Ext w1 w2) := hid x1;clear o1 x1))
 clear c0 c1 c2 c4 HI1
 have c3 : w2.cell? ⟨w.heap.size,3,none⟩ = some (.slice A 0 c) := (B1.out.ext X1.out).cell 3
 go_wp2_with fail
 go_loopw [5,4] (fun i s4 wr => i = .int .i64 0 ∧ s4 = .slice none 0 0 ∧ w2 = wr) (fun _ _ _ => 0)
 case atStart => exact ⟨rfl,rfl,rfl⟩
 case round =>
 obtain ⟨rfl,rfl,rfl⟩ := hrel
 go_upto_region 8 with ((first
  | (go_at_call 60;(with_reducible refine (HI2.out w2).mono ?_);rintro e w3 ⟨⟨A2,a2,rfl,o2⟩,x2⟩;have O2 := hid o2;have X2 : Hid (Ext w1 w3) := hid (X1.out.next x2);have O12 := hid (own_below O1.out x2);clear o2 x2)
  | (at_builtin;refine wpList_app rfl (.tmp 41) (.tmp 43) 49 rfl w1.heap.size 5 i0 (.int .u8 0) 1 1 Tryz.underlying49 hi hz0 hz1 hz2 rfl (by omega) A1 (k1) a1 _ rfl O12.out w3.heap.size A2 k2 a2 _ rfl (RdN.of_Rd (Rd.of_own O2.out)) (u8s_one _) (by simp only [maxLen];omega) (by omega) (X2.out.size) ?_;intro B3 d3 v3 o3 g3;have O3 := hid o3;have X3 : Hid (Ext w1 v3) := hid (below_app X2.out g3 O12.out (Nat.le_refl _) (X2.out.size));clear o3 g3)))
 clear c3 O1 O2 O12 X1 X2 HI2
 have c5 : v3.cell? ⟨w.heap.size,5,none⟩ = some (.slice B m d) := (B1.out.ext X3.out).cell 5
 go_upto_region 9 with ((first
  | (go_at_call 61;(with_reducible refine (HI3.out v3).mono ?_);rintro e w4 ⟨⟨A4,a4,rfl,o4⟩,x4⟩;have O4 := hid o4;have X4 : Hid (Ext w1 w4) := hid (X3.out.next x4);have O34 := hid (own_below O3.out x4);clear o4 x4)
  | (at_builtin;refine wpList_app rfl (.tmp 45) (.tmp 49) 49 rfl w1.heap.size 5 i0 (.int .u8 0) 1 1 Tryz.underlying49 hi hz0 hz1 hz2 rfl (by omega) B3 (k1 + k2) d3 _ rfl O34.out w4.heap.size A4 k3 a4 _ rfl (RdN.of_Rd (Rd.of_own O4.out)) (u8s_one _) (by simp only [maxLen];omega) (by omega) (X4.out.size) ?_;intro B5 d5 v5 o5 g5;have O5 := hid o5;have X5 : Hid (Ext w1 v5) := hid (below_app X4.out g5 O34.out (Nat.le_refl _) (X4.out.size));clear o5 g5)))
 clear c5 O3 X3 O4 X4 O34 HI3
 go_wp2_with fail
 obtain ⟨v0,rfl⟩ : ∃ x : World,x = v5 := ⟨_,rfl⟩
 go_loopw [6,3] (fun i s3 wr => ∃ (t mm : Nat) (A : Option Addr) (c : Nat),t ≤ m ∧ Hid (mm = ((ops.take t).flatMap encO).length) ∧ i = .int .i64 (t : Int) ∧ s3 = .slice A (k1 + k2 + k3 + mm) c ∧ wr.ownsRow w1.heap.size 5 1 (.slice A (k1 + k2 + k3 + mm) c) (k1 + k2 + k3 + mm) (u8s e1 ++ u8s e2 ++ u8s e3 ++ u8s ((ops.take t).flatMap encO)) ∧ Ext w1 wr) (fun i _ _ => m - (intOf i).toNat)
 case atStart => exact ⟨0,0,B5,d5,by omega,hid rfl,rfl,rfl,by rw [List.take_zero];simpa [u8s] using O5.out,X5.out⟩
 case round =>
  obtain ⟨t,mm,A5,c5,ht,HM,rfl,rfl,hO,hE⟩ := hrel
  have OT := hid hO;have EO := hid hE
  clear hO hE
  obtain ⟨wo,rfl⟩ : ∃ x : World,x = wr := ⟨_,rfl⟩
  have c5c : wo.cell? ⟨w.heap.size,5,none⟩ = some (.slice B m d) := (B1.out.ext EO.out).cell 5
  by_cases hlt : t < m
  ·obtain ⟨b,o,k,s,q,i,s2,q2,i2,N,M,nam,t0,t1,t2,t3,t4,e0,e1',e2',e3',e4,e5',e6,e7,e8,e9,e10,e11,TA,tn,tc,E1',E2,E3,E4,E5,j1,j2,j3,j4,j5,hR⟩ := HOP.out t hlt
   have hj := hR.len
   have hjt := hR.tot
   have hjm := HM.out
   have hjk := HKA.out.2
   have hmm : k1 + k2 + k3 + mm + (j1 + j2 + j3 + j4 + j5) ≤ 1000000000 := by omega
   have HRG := hid (hR.row wo (E1.out.next EO.out))
   obtain rfl := hR.adr
   have HRR := hid hR
   clear hj hjt hjm hjk hR HOP HI5 HTA
   go_upto_region 13 with (first
    | ((with_reducible refine wpList_load_row 33 b (o + t * 28) [.int .i64 k,.int .i64 s,.int .i64 q,.int .i64 i,.int .i64 s2,.int .i64 q2,.int .i64 i2,.int .i64 N,.int .i64 M,.string nam,t0,t1,t2,t3,t4,e0,e1',e2',e3',e4,e5',e6,e7,e8,e9,e10,e11,.slice TA tn tc] HRG.out Tryz.underlying33 rfl (op_info.trans rfl) ?_ ?_ ?_);kernel_rfl;rfl)
    | (refine wpList_store_freshw rfl 33 (.tmp 7) (.tmp 62) rfl wo.heap.size rfl [.int .i64 0,.int .i64 0,.int .i64 0,.int .i64 0,.int .i64 0,.int .i64 0,.int .i64 0,.int .i64 0,.int .i64 0,.string ⟨#[]⟩,.int .i64 0,.int .i64 0,.int .i64 0,.int .i64 0,.slice none 0 0,.int .i64 0,.int .i64 0,.int .i64 0,.int .i64 0,.int .i64 0,.int .i64 0,.int .i64 0,.int .i64 0,.int .i64 0,.slice none 0 0,.slice none 0 0,.slice none 0 0,.slice none 0 0] [.int .i64 k,.int .i64 s,.int .i64 q,.int .i64 i,.int .i64 s2,.int .i64 q2,.int .i64 i2,.int .i64 N,.int .i64 M,.string nam,t0,t1,t2,t3,t4,e0,e1',e2',e3',e4,e5',e6,e7,e8,e9,e10,e11,.slice TA tn tc] 33 (by kernel_rfl) (by kernel_rfl) (op_info.trans rfl) rfl HRR.out.one ?_;intro wa hwa hEa hza;have BA := hid hwa;have EA' : Hid (Ext wo wa) := hid hEa;clear hwa hEa hza))
   obtain ⟨gO,hgO⟩ : ∃ g,g = wo.heap.size := ⟨_,rfl⟩
   rw [← hgO] at BA ⊢
   clear hgO HRG c5c
   have f0 : wa.cell? ⟨gO,0,none⟩ = some (.int .i64 k) := BA.out.cell 0
   go_upto_region 14 with fail
   clear f0
   obtain ⟨wb,hwb⟩ : ∃ x,x = wa.alloc (.cells #[.int .i64 k] 3) := ⟨_,rfl⟩
   change Code.wp _ _ _ _ (wa.alloc (.cells #[.int .i64 k] 3))
   rw [← hwb]
   have OB : Hid (wb.ownsRow wa.heap.size 3 1 (.slice (some ⟨wa.heap.size,0,none⟩) 1 1) 1 (i8s [k])) := hid (by rw [hwb];exact own_lit wa wa.heap.size wa.heap.size 3 [.int .i64 k] _ 1 rfl rfl (Nat.le_refl _) rfl (by decide))
   have XB : Hid (Ext wa wb) := hid (by rw [hwb];exact (Ext.refl wa).alloc _)
   clear hwb
   have RO := hid (range_mid (BA.out.ext XB.out).range 1 [.int .i64 s,.int .i64 q,.int .i64 i] rfl)
   have HT3 := hid (rthree_any ⟨s,q,i⟩ wb)
   dsimp only at HT3
   go_upto_region 15 with ((first
    | ((with_reducible refine wpList_load_row 23 gO 1 [.int .i64 s,.int .i64 q,.int .i64 i] RO.out Tryz.underlying23 rfl (info_id.trans rfl) ?_ ?_ ?_);kernel_rfl;rfl)
    | (go_at_call 62;(with_reducible refine HT3.out.mono ?_);rintro e wc ⟨⟨g6,a6,rfl,hg6,hg7,hr6⟩,x6⟩;have HR6 := hid hr6;have XC : Hid (Ext wa wc) := hid (XB.out.next x6);have OC := hid (own_below OB.out x6);clear hr6 x6 hg6 hg7)
    | (at_builtin;refine wpList_app rfl (.tmp 66) (.tmp 69) 43 rfl wa.heap.size 3 i1 (.int .i64 0) 1 8 Tryz.underlying43 hi' hz0' hz1' hz2' rfl (by omega) (some ⟨wa.heap.size,0,none⟩) (1) 1 _ rfl OC.out wc.heap.size (some ⟨g6,0,none⟩) 3 a6 _ rfl (RdN.of_Rd HR6.out) (i8s_one _) (by simp only [maxLen];omega) (by omega) (XC.out.size) ?_;intro B14 d14 v14 o14 g14;have O14 := hid o14;have X14 : Hid (Ext wa v14) := hid (below_app XC.out g14 OC.out (Nat.le_refl _) (XC.out.size));clear o14 g14)))
   clear RO HT3 OB XB OC XC HR6
   have RO := hid (range_mid (BA.out.ext X14.out).range 4 [.int .i64 s2,.int .i64 q2,.int .i64 i2] rfl)
   have HT3 := hid (rthree_any ⟨s2,q2,i2⟩ v14)
   dsimp only at HT3
   go_upto_region 16 with ((first
    | ((with_reducible refine wpList_load_row 23 gO 4 [.int .i64 s2,.int .i64 q2,.int .i64 i2] RO.out Tryz.underlying23 rfl (info_id.trans rfl) ?_ ?_ ?_);kernel_rfl;rfl)
    | (go_at_call 62;(with_reducible refine HT3.out.mono ?_);rintro e wd ⟨⟨g8,a8,rfl,hg8,hg9,hr8⟩,x8⟩;have HR8 := hid hr8;have XD : Hid (Ext wa wd) := hid (X14.out.next x8);have OD := hid (own_below O14.out x8);clear hr8 x8 hg8 hg9)
    | (at_builtin;refine wpList_app rfl (.tmp 71) (.tmp 74) 43 rfl wa.heap.size 3 i1 (.int .i64 0) 1 8 Tryz.underlying43 hi' hz0' hz1' hz2' rfl (by omega) B14 (1 + 3) d14 _ rfl OD.out wd.heap.size (some ⟨g8,0,none⟩) 3 a8 _ rfl (RdN.of_Rd HR8.out) (i8s_one _) (by simp only [maxLen];omega) (by omega) (XD.out.size) ?_;intro B15 d15 v15 o15 g15;have O15 := hid o15;have X15 : Hid (Ext wa v15) := hid (below_app XD.out g15 OD.out (Nat.le_refl _) (XD.out.size));clear o15 g15)))
   clear RO HT3 OD XD HR8 O14 X14
   have f7 : v15.cell? ⟨gO,7,none⟩ = some (.int .i64 N) := (BA.out.ext X15.out).cell 7
   have f8 : v15.cell? ⟨gO,8,none⟩ = some (.int .i64 M) := (BA.out.ext X15.out).cell 8
   go_upto_region 17 with ((first
    | (at_builtin;refine wpList_app rfl (.tmp 77) (.tmp 82) 43 rfl wa.heap.size 3 i1 (.int .i64 0) 1 8 Tryz.underlying43 hi' hz0' hz1' hz2' rfl (by omega) B15 (1 + 3 + 3) d15 _ rfl (O15.out.alloc _) (v15.heap.size + 1) (some ⟨v15.heap.size,0,none⟩) 2 2 [.int .i64 N,.int .i64 M] rfl (RdN.fresh _ _ _ 1 2 rfl rfl rfl) (i8s_one [N,M]) (by simp only [maxLen];omega) (by omega) (by have := X15.out.size;simp;omega) ?_;intro B16 d16 v16 o16 g16;have O16 := hid o16;have X16 : Hid (Ext wa v16) := hid (below_app (X15.out.alloc _) g16 (O15.out.alloc _) (Nat.le_refl _) (by have := X15.out.size;simp;omega));clear o16 g16)
    | (go_at_call 60;(with_reducible refine (HRR.out.ints v16 B16 d16 (Rd.of_own O16.out)).mono ?_);rintro e we ⟨⟨Ae,ae,rfl,oe⟩,xe⟩;have OE := hid oe;have YE : Hid (Ext wo we) := hid ((EA'.out.next X16.out).next xe);have XE : Hid (Ext w1 we) := hid (EO.out.next YE.out);have OTE := hid (own_below OT.out YE.out);have BE := hid ((BA.out.ext X16.out).ext xe);clear oe xe)
    | (at_builtin;refine wpList_app rfl (.tmp 76) (.tmp 84) 49 rfl w1.heap.size 5 i0 (.int .u8 0) 1 1 Tryz.underlying49 hi hz0 hz1 hz2 rfl (by omega) A5 (k1 + k2 + k3 + mm) c5 _ rfl OTE.out we.heap.size Ae j1 ae _ rfl (RdN.of_Rd (Rd.of_own OE.out)) (u8s_one _) (by simp only [maxLen];omega) (by omega) (XE.out.size) ?_;intro B17 d17 v17 o17 g17;have O17 := hid o17;have X17 : Hid (Ext w1 v17) := hid (below_app XE.out g17 OTE.out (Nat.le_refl _) (XE.out.size));have BX17 := hid (BE.out.grown g17 (fun h => qown_ne BE.out OTE.out (by decide) h.symm));clear o17 g17)))
   clear f7 f8 O15 X15 O16 X16 OE YE XE OTE BE BA EA' OT
   have f9 : v17.cell? ⟨gO,9,none⟩ = some (.string nam) := BX17.out.cell 9
   go_upto_region 18 with ((first
    | (go_at_call 63;(with_reducible refine (HRR.out.byts v17).mono ?_);rintro e we ⟨⟨Ae,ae,rfl,oe⟩,xe⟩;have OE := hid oe;have XE : Hid (Ext w1 we) := hid (X17.out.next xe);have OTE := hid (own_below O17.out xe);have BE := hid (BX17.out.ext xe);clear oe xe)
    | (at_builtin;refine wpList_app rfl (.tmp 86) (.tmp 89) 49 rfl w1.heap.size 5 i0 (.int .u8 0) 1 1 Tryz.underlying49 hi hz0 hz1 hz2 rfl (by omega) B17 (k1 + k2 + k3 + mm + j1) d17 _ rfl OTE.out we.heap.size Ae j2 ae _ rfl (RdN.of_Rd (Rd.of_own OE.out)) (u8s_one _) (by simp only [maxLen];omega) (by omega) (XE.out.size) ?_;intro B18 d18 v18 o18 g18;have O18 := hid o18;have X18 : Hid (Ext w1 v18) := hid (below_app XE.out g18 OTE.out (Nat.le_refl _) (XE.out.size));have BX18 := hid (BE.out.grown g18 (fun h => qown_ne BE.out OTE.out (by decide) h.symm));clear o18 g18)))
   clear f9 OE XE OTE BE BX17 O17 X17
   have RT := hid (range_mid BX18.out.range 10 [t0,t1,t2,t3,t4] rfl)
   have HCT := hid (HRR.out.typ v18 (E1.out.next X18.out))
   go_upto_region 19 with ((first
    | ((with_reducible refine wpList_load_row 26 gO 10 [t0,t1,t2,t3,t4] RT.out Tryz.underlying26 rfl (ty_info.trans rfl) ?_ ?_ ?_);kernel_rfl;rfl)
    | (go_at_call 64;(with_reducible refine HCT.out.mono ?_);rintro e we ⟨⟨Ae,ae,rfl,oe⟩,xe⟩;have OE := hid oe;have XE : Hid (Ext w1 we) := hid (X18.out.next xe);have OTE := hid (own_below O18.out xe);have BE := hid (BX18.out.ext xe);clear oe xe)
    | (at_builtin;refine wpList_app rfl (.tmp 91) (.tmp 94) 49 rfl w1.heap.size 5 i0 (.int .u8 0) 1 1 Tryz.underlying49 hi hz0 hz1 hz2 rfl (by omega) B18 (k1 + k2 + k3 + mm + j1 + j2) d18 _ rfl OTE.out we.heap.size Ae j3 ae _ rfl (RdN.of_Rd (Rd.of_own OE.out)) (u8s_one _) (by simp only [maxLen];omega) (by omega) (XE.out.size) ?_;intro B19 d19 v19 o19 g19;have O19 := hid o19;have X19 : Hid (Ext w1 v19) := hid (below_app XE.out g19 OTE.out (Nat.le_refl _) (XE.out.size));have BX19 := hid (BE.out.grown g19 (fun h => qown_ne BE.out OTE.out (by decide) h.symm));clear o19 g19)))
   clear RT HCT OE XE OTE BE BX18 O18 X18
   have RN := hid (range_mid BX19.out.range 15 [e0,e1',e2',e3',e4,e5',e6,e7,e8,e9,e10,e11] rfl)
   have HCN := hid (HRR.out.nod v19 (E1.out.next X19.out))
   go_upto_region 20 with ((first
    | ((with_reducible refine wpList_load_row 30 gO 15 [e0,e1',e2',e3',e4,e5',e6,e7,e8,e9,e10,e11] RN.out Tryz.underlying30 rfl (nod_info.trans rfl) ?_ ?_ ?_);kernel_rfl;rfl)
    | (go_at_call 65;(with_reducible refine HCN.out.mono ?_);rintro e we ⟨⟨Ae,ae,rfl,oe⟩,xe⟩;have OE := hid oe;have XE : Hid (Ext w1 we) := hid (X19.out.next xe);have OTE := hid (own_below O19.out xe);have BE := hid (BX19.out.ext xe);clear oe xe)
    | (at_builtin;refine wpList_app rfl (.tmp 96) (.tmp 99) 49 rfl w1.heap.size 5 i0 (.int .u8 0) 1 1 Tryz.underlying49 hi hz0 hz1 hz2 rfl (by omega) B19 (k1 + k2 + k3 + mm + j1 + j2 + j3) d19 _ rfl OTE.out we.heap.size Ae j4 ae _ rfl (RdN.of_Rd (Rd.of_own OE.out)) (u8s_one _) (by simp only [maxLen];omega) (by omega) (XE.out.size) ?_;intro B20 d20 v20 o20 g20;have O20 := hid o20;have X20 : Hid (Ext w1 v20) := hid (below_app XE.out g20 OTE.out (Nat.le_refl _) (XE.out.size));have BX20 := hid (BE.out.grown g20 (fun h => qown_ne BE.out OTE.out (by decide) h.symm));clear o20 g20)))
   clear RN HCN OE XE OTE BE BX19 O19 X19
   have f27 : v20.cell? ⟨gO,27,none⟩ = some (.slice TA tn tc) := BX20.out.cell 27
   have HCS := hid (HRR.out.strs v20 (E1.out.next X20.out))
   go_wp2_with ((first
    | (go_at_call 66;(with_reducible refine HCS.out.mono ?_);rintro e we ⟨⟨Ae,ae,rfl,oe⟩,xe⟩;have OE := hid oe;have XE : Hid (Ext w1 we) := hid (X20.out.next xe);have OTE := hid (own_below O20.out xe);have BE := hid (BX20.out.ext xe);clear oe xe)
    | (at_builtin;refine wpList_app rfl (.tmp 101) (.tmp 104) 49 rfl w1.heap.size 5 i0 (.int .u8 0) 1 1 Tryz.underlying49 hi hz0 hz1 hz2 rfl (by omega) B20 (k1 + k2 + k3 + mm + j1 + j2 + j3 + j4) d20 _ rfl OTE.out we.heap.size Ae j5 ae _ rfl (RdN.of_Rd (Rd.of_own OE.out)) (u8s_one _) (by simp only [maxLen];omega) (by omega) (XE.out.size) ?_;intro B21 d21 v21 o21 g21;have O21 := hid o21;have X21 : Hid (Ext w1 v21) := hid (below_app XE.out g21 OTE.out (Nat.le_refl _) (XE.out.size));clear o21 g21)))
   have HEQ : Hid (k1 + k2 + k3 + mm + j1 + j2 + j3 + j4 + j5 = k1 + k2 + k3 + ((ops.take (t + 1)).flatMap encO).length) := hid (by rw [HRR.out.nxl,← HM.out];omega)
   have HUQ : Hid (u8s e1 ++ u8s e2 ++ u8s e3 ++ u8s ((ops.take t).flatMap encO) ++ u8s E1' ++ u8s E2 ++ u8s E3 ++ u8s E4 ++ u8s E5 = u8s e1 ++ u8s e2 ++ u8s e3 ++ u8s ((ops.take (t + 1)).flatMap encO)) := hid (by rw [HRR.out.nxt];simp only [List.append_assoc])
   have hO := O21.out
   rw [HUQ.out,HEQ.out] at hO
   exact ⟨⟨t + 1,_,B21,d21,by omega,hid rfl,by go_num,by rw [HEQ.out],hO,X21.out⟩,by simp [intOf];omega⟩
  ·obtain rfl : t = m := by omega
   have HMK : Hid (mm = ka) := hid (by rw [HM.out,HTA.out];exact HKA.out.1)
   have hmk := HMK.out
   subst hmk
   have OTF : Hid (wo.ownsRow w1.heap.size 5 1 (.slice A5 (k1 + k2 + k3 + mm) c5) (k1 + k2 + k3 + mm) (u8s e1 ++ u8s e2 ++ u8s e3 ++ u8s EA)) := hid (by have h := OT.out;rw [HTA.out] at h;exact h)
   clear HM OT HTA HKA HMK HOP
   go_upto_region 21 with fail
   have c6 : wo.cell? ⟨w.heap.size,6,none⟩ = some (.string sl) := (B1.out.ext EO.out).cell 6
   go_wp2_with ((first
    | (go_at_call 63;(with_reducible refine (HI5.out wo).mono ?_);rintro e w8 ⟨⟨A8,a8,rfl,o8⟩,x8⟩;have O8 := hid o8;have X8 : Hid (Ext w1 w8) := hid (EO.out.next x8);have O38 := hid (own_below OTF.out x8);clear o8 x8)
    | (at_builtin;refine wpList_app rfl (.tmp 106) (.tmp 109) 49 rfl w1.heap.size 5 i0 (.int .u8 0) 1 1 Tryz.underlying49 hi hz0 hz1 hz2 rfl (by omega) A5 (k1 + k2 + k3 + mm) c5 _ rfl O38.out w8.heap.size A8 k5 a8 _ rfl (RdN.of_Rd (Rd.of_own O8.out)) (u8s_one _) (by simp only [maxLen];omega) (by omega) (X8.out.size) ?_;intro B9 d9 v9 o9 g9;have O9 := hid o9;have X9 : Hid (Ext w1 v9) := hid (below_app X8.out g9 O38.out (Nat.le_refl _) (X8.out.size));clear o9 g9)))
   go_ret
   exact ⟨⟨B9,d9,rfl,own_lo O9.out E1.out.size⟩,E1.out.next X9.out⟩
end Go.Proofs.YtojcmcccahjphaaGreatDoor
