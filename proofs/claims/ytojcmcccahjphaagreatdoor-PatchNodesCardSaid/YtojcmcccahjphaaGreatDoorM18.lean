/- The reference of package patch: two patches that read the same are the same. Conditions: PatV, PatW. -/
import Derived.Test.YtojcmcccahjphaaGreatDoorM17
import Derived.Test.YtojcmcccahjphaaGreatDoorM15
import Derived.Test.YtojcmcccahjphaaGreatDoorM12
set_option linter.unusedSimpArgs false
set_option linter.unusedVariables false
set_option maxHeartbeats 16000000
set_option maxRecDepth 100000
set_option maxRecDepth 100000
set_option maxHeartbeats 16000000
namespace Go.Proofs.YtojcmcccahjphaaGreatDoor
open Go.RowKit
open Lib (hid)
attribute [local go_sem ↓] wp_at_zero wp_at_succ
theorem op_at {p : PatA} {w : World} {X : List OX} {A : Option Addr} {n c : Nat} {B : Option Addr} {m d : Nat} (hS : PatS w p X A n c B m d) (q : Nat) (hq : q < m) : ∃ (b o : Nat) (x : OX),B = some ⟨b,o,none⟩ ∧ b < w.heap.size ∧ p.ops[q]? = some x.o ∧ x.cs.length = 28 ∧ (∀ v ∈ x.cs,v.oneCell' = true) ∧ (∀ W,Ext w W → W.rangeAt b (o + q * 28) x.cs) ∧ ∀ W,Ext w W → OpV W x.o x.cs := by
 have hl := hS.len
 obtain ⟨b,o,hA,hb,hc⟩ := hS.ops.2 (by omega)
 have hx : X[q]? = some (X[q]'(by omega)) := List.getElem?_eq_getElem _
 have hm : X[q]'(by omega) ∈ X := List.getElem_mem _
 have ho : p.ops[q]? = some (X[q]'(by omega)).o := by
  have h := congrArg (fun l => l[q]?) hS.same
  try dsimp only at h
  rw [List.getElem?_map,hx] at h
  exact h.symm
 refine ⟨b,o,_,hA,hb,ho,(hS.each _ hm).len,(hS.each _ hm).one,fun W hW j v hv => ?_,fun W hW => (hS.each _ hm).ext hW⟩
 have hj : j < 28 := by
  have h1 := (List.getElem?_eq_some_iff.1 hv).1
  rw [(hS.each _ hm).len] at h1
  exact h1
 rw [Nat.add_assoc]
 exact (hW.cell (p := ⟨b,o + (q * 28 + j),none⟩) hb).trans (hc (q * 28 + j) v ((flatK_at oxC 28 X (fun y hy => (hS.each y hy).len) q _ hx j hj).trans hv))
theorem need_at {p : PatA} {w : World} {X : List OX} {A : Option Addr} {n c : Nat} {B : Option Addr} {m d : Nat} (hS : PatS w p X A n c B m d) (q : Nat) (hq : q < n) : ∃ (b o : Nat) (y : Int × Int),A = some ⟨b,o,none⟩ ∧ b < w.heap.size ∧ p.needs[q]? = some y ∧ ∀ W,Ext w W → W.rangeAt b (o + q * 2) [.int .i64 y.1,.int .i64 y.2] := by
 have hl := hS.len
 obtain ⟨b,o,hA,hb,hc⟩ := hS.needs.2 (by omega)
 have hy : p.needs[q]? = some (p.needs[q]'(by omega)) := List.getElem?_eq_getElem _
 refine ⟨b,o,_,hA,hb,hy,fun W hW j v hv => ?_⟩
 have hj : j < 2 := by
  have h1 := (List.getElem?_eq_some_iff.1 hv).1
  exact h1
 rw [Nat.add_assoc]
 exact (hW.cell (p := ⟨b,o + (q * 2 + j),none⟩) hb).trans (hc (q * 2 + j) v ((flatK_at refC 2 p.needs (fun _ _ => rfl) q _ hy j hj).trans hv))
theorem encO_le {p : PatA} (hw : PatW p) {o : OpA} (h : o ∈ p.ops) : (encO o).length ≤ 1000000000 := by
 have h1 := hw.size
 have h2 : (encO o).length ≤ (p.ops.flatMap encO).length := by
  obtain ⟨q,hq,rfl⟩ := List.getElem_of_mem h
  have h3 := flat_le encO p.ops (q + 1)
  have h4 : p.ops.take (q + 1) = p.ops.take q ++ [p.ops[q]] := by rw [List.take_add_one,List.getElem?_eq_getElem hq];rfl
  rw [h4,List.flatMap_append,List.length_append] at h3
  simp only [List.flatMap_cons,List.flatMap_nil,List.append_nil] at h3
  omega
 unfold encP at h1
 simp only [List.length_append] at h1
 omega
theorem rpsame_any (p : PatA) (ca cb : List Value) (w : World) (ha : PatV w p ca) (hb : PatV w p cb) (hw : PatW p) : Calls Tryz.prog 20 #[.agg ca.toArray,.agg cb.toArray] w fun e w' => e = .returned (.bool true) ∧ Ext w w' := by
 obtain ⟨X,A,n,c,B,m,d,rfl,hS⟩ := ha
 obtain ⟨X',A',n',c',B',m',d',rfl,hR⟩ := hb
 have hlS := hS.len
 have hlR := hR.len
 obtain rfl : n' = n := by omega
 obtain rfl : m' = m := by omega
 have hnf := hS.nfew;have hmf := hS.ofew;have hnc := hS.nle;have hmd := hS.ole;have hnc' := hR.nle;have hmd' := hR.ole
 have HND : Hid (∀ q,q < n' → ∃ (b o b' o' : Nat) (y1 y2 : Int),A = some ⟨b,o,none⟩ ∧ A' = some ⟨b',o',none⟩ ∧ (∀ W,Ext w W → W.rangeAt b (o + q * 2) [.int .i64 y1,.int .i64 y2]) ∧ (∀ W,Ext w W → W.rangeAt b' (o' + q * 2) [.int .i64 y1,.int .i64 y2])) := hid (fun q hq => by
  obtain ⟨b,o,y,h1,_,h2,h3⟩ := need_at hS q hq
  obtain ⟨b',o',y',h1',_,h2',h3'⟩ := need_at hR q hq
  obtain rfl : y = y' := by rw [h2] at h2';exact Option.some.inj h2'
  exact ⟨b,o,b',o',y.1,y.2,h1,h1',h3,h3'⟩)
 have HOP : Hid (∀ q,q < m' → ∃ (b o b' o' : Nat) (xs ys : List Value),B = some ⟨b,o,none⟩ ∧ B' = some ⟨b',o',none⟩ ∧ xs.length = 28 ∧ ys.length = 28 ∧ (∀ W,Ext w W → W.rangeAt b (o + q * 28) xs) ∧ (∀ W,Ext w W → W.rangeAt b' (o' + q * 28) ys) ∧ ∀ W,Ext w W → Calls Tryz.prog 44 #[.agg xs.toArray,.agg ys.toArray] W fun e w' => e = .returned (.bool true) ∧ Ext W w') := hid (fun q hq => by
  obtain ⟨b,o,x,h1,_,h2,h3,_,h4,h5⟩ := op_at hS q hq
  obtain ⟨b',o',x',h1',_,h2',h3',_,h4',h5'⟩ := op_at hR q hq
  have he : x.o = x'.o := by rw [h2] at h2';exact Option.some.inj h2'
  have hmem := List.mem_of_getElem? h2
  exact ⟨b,o,b',o',x.cs,x'.cs,h1,h1',h3,h3',h4,h4',fun W hW => rsameop_any x.o _ _ W (h5 W hW) (by rw [he];exact h5' W hW) (hw.ops _ hmem) (encO_le hw hmem)⟩)
 clear hS hR hw hlS hlR
 obtain ⟨shop,seq,day,needs,clause,ops,sl⟩ := p
 unfold patCl
 dsimp only
 obtain ⟨w2,hw2⟩ : ∃ x,x = (w.alloc (.cells #[.int .i64 shop,.int .i64 seq,.int .i64 day,.slice A n' c,.int .i64 clause,.slice B m' d,.string sl] 37)).alloc (.cells #[.int .i64 shop,.int .i64 seq,.int .i64 day,.slice A' n' c',.int .i64 clause,.slice B' m' d',.string sl] 37) := ⟨_,rfl⟩
 have E2 : Hid (Ext w w2) := hid (by rw [hw2];exact ((Ext.refl w).alloc _).alloc _)
 obtain ⟨g1,hg1⟩ : ∃ g,g = w.heap.size := ⟨_,rfl⟩
 have B1 : Hid (Blk w2 g1 37 [.int .i64 shop,.int .i64 seq,.int .i64 day,.slice A n' c,.int .i64 clause,.slice B m' d,.string sl]) := hid (by rw [hw2,hg1];exact (Blk.fresh' _ _ _ _ _ rfl rfl).alloc _)
 have B2 : Hid (Blk w2 (g1 + 1) 37 [.int .i64 shop,.int .i64 seq,.int .i64 day,.slice A' n' c',.int .i64 clause,.slice B' m' d',.string sl]) := hid (by rw [hw2,hg1];exact Blk.fresh' _ _ _ _ _ rfl (by simp))
 go_enter Tryz.func20,Tryz.ntmps20
 go_upto_region 1 with fail
 change Code.wp _ _ _ _ ((w.alloc (.cells #[.int .i64 shop,.int .i64 seq,.int .i64 day,.slice A n' c,.int .i64 clause,.slice B m' d,.string sl] 37)).alloc (.cells #[.int .i64 shop,.int .i64 seq,.int .i64 day,.slice A' n' c',.int .i64 clause,.slice B' m' d',.string sl] 37))
 rw [← hw2]
 rw [← hg1]
 clear hw2 hg1
 have a0 : w2.cell? ⟨g1,0,none⟩ = some (.int .i64 shop) := B1.out.cell 0
 have a1 : w2.cell? ⟨g1,1,none⟩ = some (.int .i64 seq) := B1.out.cell 1
 have a2 : w2.cell? ⟨g1,2,none⟩ = some (.int .i64 day) := B1.out.cell 2
 have a3 : w2.cell? ⟨g1,3,none⟩ = some (.slice A n' c) := B1.out.cell 3
 have a4 : w2.cell? ⟨g1,4,none⟩ = some (.int .i64 clause) := B1.out.cell 4
 have a5 : w2.cell? ⟨g1,5,none⟩ = some (.slice B m' d) := B1.out.cell 5
 have a6 : w2.cell? ⟨g1,6,none⟩ = some (.string sl) := B1.out.cell 6
 have b0 : w2.cell? ⟨g1 + 1,0,none⟩ = some (.int .i64 shop) := B2.out.cell 0
 have b1 : w2.cell? ⟨g1 + 1,1,none⟩ = some (.int .i64 seq) := B2.out.cell 1
 have b2 : w2.cell? ⟨g1 + 1,2,none⟩ = some (.int .i64 day) := B2.out.cell 2
 have b3 : w2.cell? ⟨g1 + 1,3,none⟩ = some (.slice A' n' c') := B2.out.cell 3
 have b4 : w2.cell? ⟨g1 + 1,4,none⟩ = some (.int .i64 clause) := B2.out.cell 4
 have b5 : w2.cell? ⟨g1 + 1,5,none⟩ = some (.slice B' m' d') := B2.out.cell 5
 have b6 : w2.cell? ⟨g1 + 1,6,none⟩ = some (.string sl) := B2.out.cell 6
 go_upto_region 3 with fail
 clear a0 a1 a2 a3 a4 a5 a6 b0 b1 b2 b3 b4 b5 b6
 go_wp2_with fail
 go_loopw [5] (fun s5 wr => ∃ t : Nat,t ≤ n' ∧ s5 = .int .i64 (t : Int) ∧ Ext w2 wr) (fun s5 _ => n' - (intOf s5).toNat)
 case atStart => exact ⟨0,Nat.zero_le _,rfl,Ext.refl _⟩
 case round =>
  obtain ⟨t,ht,rfl,hE⟩ := hrel
  have EI := hid hE
  clear hE
  obtain ⟨wo,rfl⟩ : ∃ x : World,x = wr := ⟨_,rfl⟩
  have a3 : wo.cell? ⟨g1,3,none⟩ = some (.slice A n' c) := (B1.out.ext EI.out).cell 3
  by_cases hlt : t < n'
  ·obtain ⟨b,o,b',o',y1,y2,rfl,rfl,hr1,hr2⟩ := HND.out t hlt
   have HR1 := hid hr1;have HR2 := hid hr2
   have HTN : Hid (t + 1 ≤ n') := hid hlt
   clear hr1 hr2
   go_upto_region 6 with fail
   clear a3
   refine wp_region_flowF 11 ?FW1 (fun us => ?_) (by kernel_rfl) (by kernel_rfl) (fun a b => Ext a b) Ext.refl (fun h1 h2 => h1.next h2) (fun fi v W => match fi with
    | 0 => v = .pointer (some ⟨g1,3,none⟩)
    | 1 => v = .slice (some ⟨b,o,none⟩) n' c
    | 2 => v = .int .i64 (t : Int)
    | 3 => v = .pointer (some ⟨b,o + t * 2,none⟩)
    | 4 => v = .agg #[.int .i64 y1,.int .i64 y2]
    | 5 => v = .pointer (some ⟨g1 + 1,3,none⟩)
    | 6 => v = .slice (some ⟨b',o',none⟩) n' c'
    | 7 => v = .int .i64 (t : Int)
    | 8 => v = .pointer (some ⟨b',o' + t * 2,none⟩)
    | 9 => v = .agg #[.int .i64 y1,.int .i64 y2]
    | 10 => v = .bool false
    | _ => True) ?_ ?_
   case refine_1 =>
    simp only [List.take_succ_cons,List.take_zero,flowAct,Nat.zero_add,Nat.reduceAdd,Act.put,List.setIfInBounds_toArray,List.set_cons_succ,List.set_cons_zero]
    rfl
   ·simp only [List.take_succ_cons,List.take_zero,flowStepsF]
    refine ⟨?_,?_,?_,?_,?_,?_,?_,?_,?_,?_,?_,trivial⟩
    ·intro us W K hE hd hK
     dsimp only at hK ⊢
     have HK := hid hK;have HE := hid hE
     clear hK hd hE
     go_wp2_with fail
     exact K_at (HK.out (.pointer (some ⟨g1,3,none⟩)) W (fun _ _ => rfl) (Ext.refl W)) (by kernel_rfl)
    ·intro us W K hE hd hK
     have d0 := hd 0 (by kernel_rfl)
     have cc : W.cell? ⟨g1,3,none⟩ = some (.slice (some ⟨b,o,none⟩) n' c) := (B1.out.ext (EI.out.next (sg_undrew hE))).cell 3
     dsimp only at hK ⊢
     rw [d0] at hK ⊢
     have HK := hid hK;have HE := hid hE
     clear hK hd hE d0
     go_wp2_with fail
     exact K_at (HK.out (.slice (some ⟨b,o,none⟩) n' c) W (fun _ _ => rfl) (Ext.refl W)) (by kernel_rfl)
    ·intro us W K hE hd hK
     dsimp only at hK ⊢
     have HK := hid hK;have HE := hid hE
     clear hK hd hE
     go_wp2_with fail
     exact K_at (HK.out (.int .i64 (t : Int)) W (fun _ _ => rfl) (Ext.refl W)) (by kernel_rfl)
    ·intro us W K hE hd hK
     have d1 := hd 1 (by kernel_rfl)
     have d2 := hd 2 (by kernel_rfl)
     dsimp only at hK ⊢
     rw [d1,d2] at hK ⊢
     have HK := hid hK;have HE := hid hE
     clear hK hd hE d1 d2
     go_wp2_with fail
     exact K_at (HK.out (.pointer (some ⟨b,o + t * 2,none⟩)) W (fun _ _ => rfl) (Ext.refl W)) (by kernel_rfl)
    ·intro us W K hE hd hK
     have d3 := hd 3 (by kernel_rfl)
     have RW := hid (HR1.out W ((E2.out.next EI.out).next (sg_undrew hE)))
     dsimp only at hK ⊢
     rw [d3] at hK ⊢
     have HK := hid hK;have HE := hid hE
     clear hK hd hE d3
     go_wp2_with ((refine wpList_midw (by rfl) 47 (.tmp 68) rfl b (o + t * 2) rfl [.int .i64 y1,.int .i64 y2] RW.out Tryz.underlying47 rfl (ref_info.trans rfl) ?_))
     exact K_at (HK.out (.agg #[.int .i64 y1,.int .i64 y2]) W (fun _ _ => rfl) (Ext.refl W)) (by kernel_rfl)
    ·intro us W K hE hd hK
     dsimp only at hK ⊢
     have HK := hid hK;have HE := hid hE
     clear hK hd hE
     go_wp2_with fail
     exact K_at (HK.out (.pointer (some ⟨g1 + 1,3,none⟩)) W (fun _ _ => rfl) (Ext.refl W)) (by kernel_rfl)
    ·intro us W K hE hd hK
     have d5 := hd 5 (by kernel_rfl)
     have cc : W.cell? ⟨g1 + 1,3,none⟩ = some (.slice (some ⟨b',o',none⟩) n' c') := (B2.out.ext (EI.out.next (sg_undrew hE))).cell 3
     dsimp only at hK ⊢
     rw [d5] at hK ⊢
     have HK := hid hK;have HE := hid hE
     clear hK hd hE d5
     go_wp2_with fail
     exact K_at (HK.out (.slice (some ⟨b',o',none⟩) n' c') W (fun _ _ => rfl) (Ext.refl W)) (by kernel_rfl)
    ·intro us W K hE hd hK
     dsimp only at hK ⊢
     have HK := hid hK;have HE := hid hE
     clear hK hd hE
     go_wp2_with fail
     exact K_at (HK.out (.int .i64 (t : Int)) W (fun _ _ => rfl) (Ext.refl W)) (by kernel_rfl)
    ·intro us W K hE hd hK
     have d6 := hd 6 (by kernel_rfl)
     have d7 := hd 7 (by kernel_rfl)
     dsimp only at hK ⊢
     rw [d6,d7] at hK ⊢
     have HK := hid hK;have HE := hid hE
     clear hK hd hE d6 d7
     go_wp2_with fail
     exact K_at (HK.out (.pointer (some ⟨b',o' + t * 2,none⟩)) W (fun _ _ => rfl) (Ext.refl W)) (by kernel_rfl)
    ·intro us W K hE hd hK
     have d8 := hd 8 (by kernel_rfl)
     have RW := hid (HR2.out W ((E2.out.next EI.out).next (sg_undrew hE)))
     dsimp only at hK ⊢
     rw [d8] at hK ⊢
     have HK := hid hK;have HE := hid hE
     clear hK hd hE d8
     go_wp2_with ((refine wpList_midw (by rfl) 47 (.tmp 73) rfl b' (o' + t * 2) rfl [.int .i64 y1,.int .i64 y2] RW.out Tryz.underlying47 rfl (ref_info.trans rfl) ?_))
     exact K_at (HK.out (.agg #[.int .i64 y1,.int .i64 y2]) W (fun _ _ => rfl) (Ext.refl W)) (by kernel_rfl)
    ·intro us W K hE hd hK
     have d4 := hd 4 (by kernel_rfl)
     have d9 := hd 9 (by kernel_rfl)
     dsimp only at hK ⊢
     rw [d4,d9] at hK ⊢
     have HK := hid hK;have HE := hid hE
     clear hK hd hE d4 d9
     go_wp2_with fail
     exact K_at (HK.out (.bool false) W (fun _ _ => rfl) (Ext.refl W)) (by kernel_rfl)
   ·intro us W hE hd
    try dsimp only
    have d10 := hd 10 (by decide)
    simp only [List.drop_succ_cons,List.drop_zero]
    rw [d10]
    have EW := hid (EI.out.next (sg_undrew hE))
    clear hd hE d10
    go_wp2_with fail
    exact ⟨⟨t + 1,HTN.out,by go_num,EW.out⟩,by have := HTN.out;simp [intOf];omega⟩
  ·obtain rfl : t = n' := by omega
   have EJ := hid (E2.out.next EI.out)
   have BJ1 := hid (B1.out.ext EI.out);have BJ2 := hid (B2.out.ext EI.out)
   go_wp2_with fail
   clear a3
   go_loopw [6] (fun s6 wr => ∃ u : Nat,u ≤ m' ∧ s6 = .int .i64 (u : Int) ∧ Ext wo wr) (fun s6 _ => m' - (intOf s6).toNat)
   case atStart => exact ⟨0,Nat.zero_le _,rfl,Ext.refl _⟩
   case round =>
    obtain ⟨u,hu,rfl,hE⟩ := hrel
    have EU := hid hE
    clear hE
    obtain ⟨wi,rfl⟩ : ∃ x : World,x = wr := ⟨_,rfl⟩
    have a5 : wi.cell? ⟨g1,5,none⟩ = some (.slice B m' d) := (BJ1.out.ext EU.out).cell 5
    by_cases hlt : u < m'
    ·obtain ⟨b,o,b',o',xs,ys,rfl,rfl,hl1,hl2,hr1,hr2,hcl⟩ := HOP.out u hlt
     have HR1 := hid hr1;have HR2 := hid hr2;have HL1 := hid hl1;have HL2 := hid hl2;have HC := hid hcl
     have HTN : Hid (u + 1 ≤ m') := hid hlt
     clear hr1 hr2 hl1 hl2 hcl
     go_upto_region 11 with fail
     clear a5
     refine wp_region_flowF 12 ?FW2 (fun us => ?_) (by kernel_rfl) (by kernel_rfl) (fun a b => Ext a b) Ext.refl (fun h1 h2 => h1.next h2) (fun fi v W => match fi with
      | 0 => v = .pointer (some ⟨g1,5,none⟩)
      | 1 => v = .slice (some ⟨b,o,none⟩) m' d
      | 2 => v = .int .i64 (u : Int)
      | 3 => v = .pointer (some ⟨b,o + u * 28,none⟩)
      | 4 => v = .agg xs.toArray
      | 5 => v = .pointer (some ⟨g1 + 1,5,none⟩)
      | 6 => v = .slice (some ⟨b',o',none⟩) m' d'
      | 7 => v = .int .i64 (u : Int)
      | 8 => v = .pointer (some ⟨b',o' + u * 28,none⟩)
      | 9 => v = .agg ys.toArray
      | 10 => v = .bool true
      | 11 => v = .bool false
      | _ => True) ?_ ?_
     case refine_1 =>
      simp only [List.take_succ_cons,List.take_zero,flowAct,Nat.zero_add,Nat.reduceAdd,Act.put,List.setIfInBounds_toArray,List.set_cons_succ,List.set_cons_zero]
      rfl
     ·simp only [List.take_succ_cons,List.take_zero,flowStepsF]
      refine ⟨?_,?_,?_,?_,?_,?_,?_,?_,?_,?_,?_,?_,trivial⟩
      ·intro us W K hE hd hK
       dsimp only at hK ⊢
       have HK := hid hK;have HE := hid hE
       clear hK hd hE
       go_wp2_with fail
       exact K_at (HK.out (.pointer (some ⟨g1,5,none⟩)) W (fun _ _ => rfl) (Ext.refl W)) (by kernel_rfl)
      ·intro us W K hE hd hK
       have d0 := hd 0 (by kernel_rfl)
       have cc : W.cell? ⟨g1,5,none⟩ = some (.slice (some ⟨b,o,none⟩) m' d) := (BJ1.out.ext (EU.out.next (sg_undrew hE))).cell 5
       dsimp only at hK ⊢
       rw [d0] at hK ⊢
       have HK := hid hK;have HE := hid hE
       clear hK hd hE d0
       go_wp2_with fail
       exact K_at (HK.out (.slice (some ⟨b,o,none⟩) m' d) W (fun _ _ => rfl) (Ext.refl W)) (by kernel_rfl)
      ·intro us W K hE hd hK
       dsimp only at hK ⊢
       have HK := hid hK;have HE := hid hE
       clear hK hd hE
       go_wp2_with fail
       exact K_at (HK.out (.int .i64 (u : Int)) W (fun _ _ => rfl) (Ext.refl W)) (by kernel_rfl)
      ·intro us W K hE hd hK
       have d1 := hd 1 (by kernel_rfl)
       have d2 := hd 2 (by kernel_rfl)
       dsimp only at hK ⊢
       rw [d1,d2] at hK ⊢
       have HK := hid hK;have HE := hid hE
       clear hK hd hE d1 d2
       go_wp2_with fail
       exact K_at (HK.out (.pointer (some ⟨b,o + u * 28,none⟩)) W (fun _ _ => rfl) (Ext.refl W)) (by kernel_rfl)
      ·intro us W K hE hd hK
       have d3 := hd 3 (by kernel_rfl)
       have RW := hid (HR1.out W ((EJ.out.next EU.out).next (sg_undrew hE)))
       dsimp only at hK ⊢
       rw [d3] at hK ⊢
       have HK := hid hK;have HE := hid hE
       clear hK hd hE d3
       go_wp2_with ((refine wpList_midw (by rfl) 33 (.tmp 86) rfl b (o + u * 28) rfl xs RW.out Tryz.underlying33 rfl (op_info.trans (congrArg some HL1.out.symm)) ?_))
       exact K_at (HK.out (.agg xs.toArray) W (fun _ _ => rfl) (Ext.refl W)) (by kernel_rfl)
      ·intro us W K hE hd hK
       dsimp only at hK ⊢
       have HK := hid hK;have HE := hid hE
       clear hK hd hE
       go_wp2_with fail
       exact K_at (HK.out (.pointer (some ⟨g1 + 1,5,none⟩)) W (fun _ _ => rfl) (Ext.refl W)) (by kernel_rfl)
      ·intro us W K hE hd hK
       have d5 := hd 5 (by kernel_rfl)
       have cc : W.cell? ⟨g1 + 1,5,none⟩ = some (.slice (some ⟨b',o',none⟩) m' d') := (BJ2.out.ext (EU.out.next (sg_undrew hE))).cell 5
       dsimp only at hK ⊢
       rw [d5] at hK ⊢
       have HK := hid hK;have HE := hid hE
       clear hK hd hE d5
       go_wp2_with fail
       exact K_at (HK.out (.slice (some ⟨b',o',none⟩) m' d') W (fun _ _ => rfl) (Ext.refl W)) (by kernel_rfl)
      ·intro us W K hE hd hK
       dsimp only at hK ⊢
       have HK := hid hK;have HE := hid hE
       clear hK hd hE
       go_wp2_with fail
       exact K_at (HK.out (.int .i64 (u : Int)) W (fun _ _ => rfl) (Ext.refl W)) (by kernel_rfl)
      ·intro us W K hE hd hK
       have d6 := hd 6 (by kernel_rfl)
       have d7 := hd 7 (by kernel_rfl)
       dsimp only at hK ⊢
       rw [d6,d7] at hK ⊢
       have HK := hid hK;have HE := hid hE
       clear hK hd hE d6 d7
       go_wp2_with fail
       exact K_at (HK.out (.pointer (some ⟨b',o' + u * 28,none⟩)) W (fun _ _ => rfl) (Ext.refl W)) (by kernel_rfl)
      ·intro us W K hE hd hK
       have d8 := hd 8 (by kernel_rfl)
       have RW := hid (HR2.out W ((EJ.out.next EU.out).next (sg_undrew hE)))
       dsimp only at hK ⊢
       rw [d8] at hK ⊢
       have HK := hid hK;have HE := hid hE
       clear hK hd hE d8
       go_wp2_with ((refine wpList_midw (by rfl) 33 (.tmp 91) rfl b' (o' + u * 28) rfl ys RW.out Tryz.underlying33 rfl (op_info.trans (congrArg some HL2.out.symm)) ?_))
       exact K_at (HK.out (.agg ys.toArray) W (fun _ _ => rfl) (Ext.refl W)) (by kernel_rfl)
      ·intro us W K hE hd hK
       have d4 := hd 4 (by kernel_rfl)
       have d9 := hd 9 (by kernel_rfl)
       have HCW := hid (HC.out W ((EJ.out.next EU.out).next (sg_undrew hE)))
       dsimp only at hK ⊢
       rw [d4,d9] at hK ⊢
       have HK := hid hK;have HE := hid hE
       clear hK hd hE d4 d9
       go_wp2_with ((go_at_call 44;(with_reducible refine HCW.out.mono ?_);rintro e w6 ⟨rfl,hB6⟩))
       exact K_at (HK.out (.bool true) w6 (fun _ _ => rfl) hB6) (by kernel_rfl)
      ·intro us W K hE hd hK
       have d10 := hd 10 (by kernel_rfl)
       dsimp only at hK ⊢
       rw [d10] at hK ⊢
       have HK := hid hK;have HE := hid hE
       clear hK hd hE d10
       go_wp2_with fail
       exact K_at (HK.out (.bool false) W (fun _ _ => rfl) (Ext.refl W)) (by kernel_rfl)
     ·intro us W hE hd
      try dsimp only
      have d11 := hd 11 (by decide)
      simp only [List.drop_succ_cons,List.drop_zero]
      rw [d11]
      have EW := hid (EU.out.next (sg_undrew hE))
      clear hd hE d11
      go_wp2_with fail
      exact ⟨⟨u + 1,HTN.out,by go_num,EW.out⟩,by have := HTN.out;simp [intOf];omega⟩
    ·obtain rfl : u = m' := by omega
     go_wp2_with fail
     go_ret
     exact ⟨rfl,EJ.out.next EU.out⟩
end Go.Proofs.YtojcmcccahjphaaGreatDoor
/- patch.Valid of a patch that needs no other. Conditions: PatV, PatW; the tables of package patch are laid. -/
set_option maxRecDepth 100000
set_option maxHeartbeats 8000000
namespace Go.Proofs.YtojcmcccahjphaaGreatDoor
open Go.RowKit
open Lib (hid)
attribute [local go_sem ↓] wp_at_zero wp_at_succ
def hdB (p : PatA) : Bool := rnumB p.shop p.seq && (winB p.day 1 1048576 && winB p.clause 0 255)
def validP (p : PatA) : Int := if hdB p = false then 5 else if 32 < p.ops.length then 4 else if p.ops.length = 0 then 1 else if p.ops.all operB = false then 1 else if 6800 < (msgP p).length then 4 else 0
theorem all_upto (f : OpA → Bool) (L : List OpA) (h : ∀ (q : Nat) (x : OpA),L[q]? = some x → f x = true) : L.all f = true := by
 rw [List.all_eq_true]
 intro x hx
 obtain ⟨q,hq⟩ := List.mem_iff_getElem?.1 hx
 exact h q x hq
theorem all_not (f : OpA → Bool) (L : List OpA) (q : Nat) (x : OpA) (h : L[q]? = some x) (hf : f x = false) : L.all f = false := by
 rw [List.all_eq_false]
 exact ⟨x,List.mem_of_getElem? h,by rw [hf];decide⟩
theorem pvalidE_any (p : PatA) (cs : List Value) (w : World) (hp : PatV w p cs) (hw : PatW p) (hn : p.needs = []) (hC : CTab w) (hU : STab w) : Calls Tryz.prog 5 #[.agg cs.toArray] w fun e w' => e = .returned (.int .i64 (validP p)) ∧ Ext w w' := by
 have hp2 := hp
 obtain ⟨X,A,n,c,B,m,d,rfl,hS⟩ := hp
 have HS := hid hS
 have HMS : Hid (∀ W,Ext w W → Calls Tryz.prog 13 #[.agg (patCl p (.slice A n c) (.slice B m d)).toArray] W fun e w' => (∃ A c,e = .returned (.slice A (msgP p).length c)) ∧ Ext W w') := hid (fun W hW => (pmessage_any p _ W (hp2.ext hW) hw).mono fun e w' ⟨⟨A',c',h1,_⟩,h2⟩ => ⟨⟨A',c',h1⟩,h2⟩)
 obtain ⟨b0,hb0⟩ : ∃ b,b = hdB p := ⟨_,rfl⟩
 obtain ⟨ml,hml⟩ : ∃ k,k = (msgP p).length := ⟨_,rfl⟩
 obtain ⟨V,hV⟩ : ∃ v,v = validP p := ⟨_,rfl⟩
 have HLM : Hid (p.ops.length = m) := hid hS.len.2.2
 have HVV : Hid (V = if b0 = false then 5 else if 32 < m then 4 else if m = 0 then 1 else if p.ops.all operB = false then 1 else if 6800 < ml then 4 else 0) := hid (by rw [hV,hb0,hml,← HLM.out];rfl)
 rw [← hml] at HMS
 rw [← hV]
 have HOX : Hid (∀ q : Nat,q < m → ∃ (b o : Nat) (x : OX),B = some ⟨b,o,none⟩ ∧ p.ops[q]? = some x.o ∧ x.cs.length = 28 ∧ (∀ v ∈ x.cs,v.oneCell' = true) ∧ (∀ W,Ext w W → W.rangeAt b (o + q * 28) x.cs) ∧ (∀ W,Ext w W → Calls Tryz.prog 12 #[.agg x.cs.toArray] W fun e w' => e = .returned (.bool (operB x.o)) ∧ Ext W w')) := hid (fun q hq => by
  have hl := hS.len
  obtain ⟨b,o,hA,hb,hc⟩ := hS.ops.2 (by omega)
  have hx : X[q]? = some (X[q]'(by omega)) := List.getElem?_eq_getElem _
  have hm : X[q]'(by omega) ∈ X := List.getElem_mem _
  have ho : p.ops[q]? = some (X[q]'(by omega)).o := by
   have h := congrArg (fun l => l[q]?) hS.same
   try dsimp only at h
   rw [List.getElem?_map,hx] at h
   exact h.symm
  refine ⟨b,o,_,hA,ho,(hS.each _ hm).len,(hS.each _ hm).one,fun W hW j v hv => ?_,fun W hW => oper_any _ _ W ((hS.each _ hm).ext hW) (hC.below hW) (hU.below hW)⟩
  have hj : j < 28 := by
   have h1 := (List.getElem?_eq_some_iff.1 hv).1
   rw [(hS.each _ hm).len] at h1
   exact h1
  rw [Nat.add_assoc]
  exact (hW.cell (p := ⟨b,o + (q * 28 + j),none⟩) hb).trans (hc (q * 28 + j) v ((flatK_at oxC 28 X (fun y hy => (hS.each y hy).len) q _ hx j hj).trans hv)))
 obtain rfl : n = 0 := by have h := hS.len.1;rw [hn] at h;exact h.symm
 have hmf : m ≤ 1000000 := hS.ofew
 have hmd : m ≤ d := hS.ole
 clear hp2 hS hw hV hml
 obtain ⟨shop,seq,day,needs,clause,ops,sl⟩ := p
 have hb0' : b0 = (rnumB shop seq && (winB day 1 1048576 && winB clause 0 255)) := hb0
 obtain ⟨v1,hv1⟩ : ∃ v,v = rnumB shop seq := ⟨_,rfl⟩
 obtain ⟨v2,hv2⟩ : ∃ v,v = winB day 1 1048576 := ⟨_,rfl⟩
 obtain ⟨v3,hv3⟩ : ∃ v,v = winB clause 0 255 := ⟨_,rfl⟩
 have HN1 : Hid (∀ W,Calls Tryz.prog 10 #[.int .i64 shop,.int .i64 seq] W fun e w2 => e = .returned (.bool v1) ∧ W = w2) := hid (fun W => by rw [hv1];exact pnumbered_any shop seq W)
 have HW1 : Hid (∀ W,Calls Tryz.prog 11 #[.int .i64 day,.int .i64 1,.int .i64 1048576] W fun e w2 => e = .returned (.bool v2) ∧ W = w2) := hid (fun W => by rw [hv2];exact pwithin_any day 1 1048576 W)
 have HW2 : Hid (∀ W,Calls Tryz.prog 11 #[.int .i64 clause,.int .i64 0,.int .i64 255] W fun e w2 => e = .returned (.bool v3) ∧ W = w2) := hid (fun W => by rw [hv3];exact pwithin_any clause 0 255 W)
 rw [← hv1,← hv2,← hv3] at hb0'
 have HB0 := hid hb0'
 clear hb0' hb0 hv1 hv2 hv3 hn hC hU
 dsimp only at HVV HLM HOX HMS
 unfold patCl at HMS ⊢
 dsimp only at HMS ⊢
 go_enter Tryz.func5,Tryz.ntmps5
 go_upto_region 1 with fail
 obtain ⟨w1,hw1⟩ : ∃ x,x = w.alloc (.cells #[.int .i64 shop,.int .i64 seq,.int .i64 day,.slice A 0 c,.int .i64 clause,.slice B m d,.string sl] 37) := ⟨_,rfl⟩
 change Code.wp _ _ _ _ (w.alloc (.cells #[.int .i64 shop,.int .i64 seq,.int .i64 day,.slice A 0 c,.int .i64 clause,.slice B m d,.string sl] 37))
 rw [← hw1]
 have E1 : Hid (Ext w w1) := hid (by rw [hw1];exact (Ext.refl w).alloc _)
 have B1 : Hid (Blk w1 w.heap.size 37 [.int .i64 shop,.int .i64 seq,.int .i64 day,.slice A 0 c,.int .i64 clause,.slice B m d,.string sl]) := hid (by rw [hw1];exact Blk.fresh' _ _ _ _ _ rfl rfl)
 clear hw1
 have c0 : w1.cell? ⟨w.heap.size,0,none⟩ = some (.int .i64 shop) := B1.out.cell 0
 have c1 : w1.cell? ⟨w.heap.size,1,none⟩ = some (.int .i64 seq) := B1.out.cell 1
 have c2 : w1.cell? ⟨w.heap.size,2,none⟩ = some (.int .i64 day) := B1.out.cell 2
 have c3 : w1.cell? ⟨w.heap.size,3,none⟩ = some (.slice A 0 c) := B1.out.cell 3
 have c4 : w1.cell? ⟨w.heap.size,4,none⟩ = some (.int .i64 clause) := B1.out.cell 4
 have c5 : w1.cell? ⟨w.heap.size,5,none⟩ = some (.slice B m d) := B1.out.cell 5
 go_cut [7] from 8 to 25 (fun s7 wx => s7 = .bool (!b0) ∧ w1 = wx)
 case first =>
  cases v1
  ·have HQ : Hid (b0 = false) := hid (by rw [HB0.out];rfl)
   go_wp2_with (go_at_call 10;(with_reducible refine (HN1.out _).mono ?_);rintro e w2 ⟨rfl,rfl⟩)
   go_meet
   exact ⟨by rw [HQ.out];rfl,rfl⟩
  cases v2
  ·have HQ : Hid (b0 = false) := hid (by rw [HB0.out];rfl)
   go_wp2_with (first | (go_at_call 10;(with_reducible refine (HN1.out _).mono ?_);rintro e w2 ⟨rfl,rfl⟩) | (go_at_call 11;(with_reducible refine (HW1.out _).mono ?_);rintro e w2 ⟨rfl,rfl⟩))
   go_meet
   exact ⟨by rw [HQ.out];rfl,rfl⟩
  cases v3
  ·have HQ : Hid (b0 = false) := hid (by rw [HB0.out];rfl)
   go_wp2_with (first | (go_at_call 10;(with_reducible refine (HN1.out _).mono ?_);rintro e w2 ⟨rfl,rfl⟩) | (go_at_call 11;first | ((with_reducible refine (HW1.out _).mono ?_);rintro e w2 ⟨rfl,rfl⟩) | ((with_reducible refine (HW2.out _).mono ?_);rintro e w2 ⟨rfl,rfl⟩)))
   go_meet
   exact ⟨by rw [HQ.out];rfl,rfl⟩
  ·have HQ : Hid (b0 = true) := hid (by rw [HB0.out];rfl)
   go_wp2_with (first | (go_at_call 10;(with_reducible refine (HN1.out _).mono ?_);rintro e w2 ⟨rfl,rfl⟩) | (go_at_call 11;first | ((with_reducible refine (HW1.out _).mono ?_);rintro e w2 ⟨rfl,rfl⟩) | ((with_reducible refine (HW2.out _).mono ?_);rintro e w2 ⟨rfl,rfl⟩)))
   go_meet
   exact ⟨by rw [HQ.out];rfl,rfl⟩
 case rest =>
 obtain ⟨rfl,rfl⟩ := hcut
 clear c0 c1 c2 c4 HN1 HW1 HW2 HB0
 cases b0
 case false =>
  have HQ : Hid (V = 5) := hid (by rw [HVV.out];rfl)
  go_wp2_with fail
  go_ret
  exact ⟨by rw [HQ.out];rfl,E1.out⟩
 have HV1 : Hid (V = if 32 < m then 4 else if m = 0 then 1 else if ops.all operB = false then 1 else if 6800 < ml then 4 else 0) := hid (by rw [HVV.out];rfl)
 by_cases hm32 : 32 < m
 ·have HQ : Hid (V = 4) := hid (by rw [HV1.out,if_pos hm32])
  have h1 : decide ((32 : Int) < (m : Int)) = true := decide_eq_true (by omega)
  have h2 : decide (32 < m) = true := decide_eq_true hm32
  clear hm32
  go_wp2_with fail
  go_ret
  exact ⟨by rw [HQ.out];rfl,E1.out⟩
 have HV2 : Hid (V = if m = 0 then 1 else if ops.all operB = false then 1 else if 6800 < ml then 4 else 0) := hid (by rw [HV1.out,if_neg hm32])
 have h1 : decide ((32 : Int) < (m : Int)) = false := decide_eq_false (by omega)
 have h2 : decide (32 < m) = false := decide_eq_false hm32
 clear hm32 HV1 HVV
 by_cases hm0 : m = 0
 ·have HQ : Hid (V = 1) := hid (by rw [HV2.out,if_pos hm0])
  subst hm0
  go_wp2_with fail
  go_ret
  exact ⟨by rw [HQ.out];rfl,E1.out⟩
 have HV3 : Hid (V = if ops.all operB = false then 1 else if 6800 < ml then 4 else 0) := hid (by rw [HV2.out,if_neg hm0])
 have h3 : ((m : Int) == 0) = false := by rw [beq_eq_false_iff_ne];omega
 have h4 : (m == 0) = false := by rw [beq_eq_false_iff_ne];exact hm0
 clear HV2
 go_upto_region 7 with fail
 clear h1 h2 h3 h4
 go_wp2_with fail
 go_loopw [3,4,39] (fun _ _ s39 wr => s39 = .int .i64 0 ∧ w1 = wr) (fun _ _ _ _ => 0)
 case atStart => exact ⟨rfl,rfl⟩
 case round =>
  obtain ⟨rfl,rfl⟩ := hrel
  go_wp2_with fail
  go_loopw [6,77] (fun _ s77 wr => ∃ q : Nat,q ≤ m ∧ s77 = .int .i64 (q : Int) ∧ Hid (∀ j x,j < q → ops[j]? = some x → operB x = true) ∧ Ext w1 wr) (fun _ s77 _ => m - (intOf s77).toNat)
  case atStart => exact ⟨0,Nat.zero_le _,rfl,hid (fun j x h => absurd h (Nat.not_lt_zero _)),Ext.refl _⟩
  case round =>
   obtain ⟨q,hq,rfl,HALL,hEi⟩ := hrel
   obtain ⟨wi,rfl⟩ : ∃ x : World,x = wr := ⟨_,rfl⟩
   have EI := hid hEi
   clear hEi
   by_cases hlt : q < m
   ·obtain ⟨b,o,⟨x,ds⟩,hB,hget,hl,hone,hrg,hcl⟩ := HOX.out q hlt
    subst hB
    dsimp only at hget hl hone hrg hcl
    have HRG := hid (hrg wi (E1.out.next EI.out))
    have HL := hid hl;have HONE := hid hone;have HCL := hid hcl;have HGET := hid hget
    obtain ⟨ob,hob⟩ : ∃ v,v = operB x := ⟨_,rfl⟩
    rw [← hob] at HCL
    have HOB := hid hob
    have hld := hl
    clear hget hl hone hrg hcl hob
    cases ob
    ·have HQ : Hid (V = 1) := hid (by rw [HV3.out,if_pos (all_not operB ops q x HGET.out HOB.out.symm)])
     go_wp2_with (first
      | ((with_reducible refine wpList_load_row 33 b (o + q * 28) ds HRG.out Tryz.underlying33 rfl (op_info.trans (congrArg some HL.out.symm)) ?_ ?_ ?_);kernel_rfl;rfl)
      | (refine wpList_store_freshw rfl 33 (.tmp 6) (.tmp 80) rfl wi.heap.size rfl [.int .i64 0,.int .i64 0,.int .i64 0,.int .i64 0,.int .i64 0,.int .i64 0,.int .i64 0,.int .i64 0,.int .i64 0,.string ⟨#[]⟩,.int .i64 0,.int .i64 0,.int .i64 0,.int .i64 0,.slice none 0 0,.int .i64 0,.int .i64 0,.int .i64 0,.int .i64 0,.int .i64 0,.int .i64 0,.int .i64 0,.int .i64 0,.int .i64 0,.slice none 0 0,.slice none 0 0,.slice none 0 0,.slice none 0 0] ds 33 (by kernel_rfl) (by kernel_rfl) (op_info.trans (congrArg some HL.out.symm)) (Eq.trans (b := 28) rfl HL.out.symm) HONE.out ?_;intro w5 hw5 hE5 hz5;have B5 := hid hw5;have E5 := hid hE5;clear hw5 hE5 hz5)
      | (refine wpList_load_blk rfl 33 (.tmp 6) rfl wi.heap.size (by kernel_rfl) B5.out Tryz.underlying33 rfl (op_info.trans (congrArg some HL.out.symm)) ?_)
      | (go_at_call 12;(with_reducible refine (HCL.out w5 (E1.out.next (EI.out.next E5.out))).mono ?_);rintro e w6 ⟨rfl,hE6⟩;have E6 : Hid (Ext w w6) := hid ((E1.out.next (EI.out.next E5.out)).next hE6);clear hE6))
     go_ret
     exact ⟨by rw [HQ.out];rfl,E6.out⟩
    ·go_wp2_with (first
      | ((with_reducible refine wpList_load_row 33 b (o + q * 28) ds HRG.out Tryz.underlying33 rfl (op_info.trans (congrArg some HL.out.symm)) ?_ ?_ ?_);kernel_rfl;rfl)
      | (refine wpList_store_freshw rfl 33 (.tmp 6) (.tmp 80) rfl wi.heap.size rfl [.int .i64 0,.int .i64 0,.int .i64 0,.int .i64 0,.int .i64 0,.int .i64 0,.int .i64 0,.int .i64 0,.int .i64 0,.string ⟨#[]⟩,.int .i64 0,.int .i64 0,.int .i64 0,.int .i64 0,.slice none 0 0,.int .i64 0,.int .i64 0,.int .i64 0,.int .i64 0,.int .i64 0,.int .i64 0,.int .i64 0,.int .i64 0,.int .i64 0,.slice none 0 0,.slice none 0 0,.slice none 0 0,.slice none 0 0] ds 33 (by kernel_rfl) (by kernel_rfl) (op_info.trans (congrArg some HL.out.symm)) (Eq.trans (b := 28) rfl HL.out.symm) HONE.out ?_;intro w5 hw5 hE5 hz5;have B5 := hid hw5;have E5 := hid hE5;clear hw5 hE5 hz5)
      | (refine wpList_load_blk rfl 33 (.tmp 6) rfl wi.heap.size (by kernel_rfl) B5.out Tryz.underlying33 rfl (op_info.trans (congrArg some HL.out.symm)) ?_)
      | (go_at_call 12;(with_reducible refine (HCL.out w5 (E1.out.next (EI.out.next E5.out))).mono ?_);rintro e w6 ⟨rfl,hE6⟩;have E6 : Hid (Ext w1 w6) := hid ((EI.out.next E5.out).next hE6);clear hE6))
     exact ⟨⟨_,_,_,_,_,_,_,_,_,_,⟨q + 1,by omega,by go_num,hid (fun j y hj hy => by
      rcases Nat.lt_or_ge j q with h | h
      ·exact HALL.out j y h hy
      ·obtain rfl : j = q := by omega
       rw [HGET.out] at hy
       rw [← Option.some.inj hy]
       exact HOB.out.symm),E6.out⟩,rfl⟩,by simp [intOf];omega⟩
   ·obtain rfl : q = m := by omega
    have HV4 : Hid (V = if 6800 < ml then 4 else 0) := hid (by
     have h : ops.all operB = true := all_upto operB ops (fun j x hx => HALL.out j x (by have h1 := (List.getElem?_eq_some_iff.1 hx).1;rw [HLM.out] at h1;exact h1) hx)
     rw [HV3.out,h];rfl)
    have BI := hid (B1.out.ext EI.out)
    have EWI := hid (E1.out.next EI.out)
    by_cases h68 : 6800 < ml
    ·have HQ : Hid (V = 4) := hid (by rw [HV4.out,if_pos h68])
     have h1 : decide ((6800 : Int) < (ml : Int)) = true := decide_eq_true (by omega)
     have h2 : decide (6800 < ml) = true := decide_eq_true h68
     clear h68
     go_wp2_with (first
      | (refine wpList_load_blk rfl 37 (.tmp 1) rfl w.heap.size (by kernel_rfl) BI.out Tryz.underlying37 rfl (pat_info.trans rfl) ?_)
      | (go_at_call 13;(with_reducible refine (HMS.out wi EWI.out).mono ?_);rintro e w6 ⟨⟨A6,c6,rfl⟩,hE6⟩;have E6 : Hid (Ext w w6) := hid (EWI.out.next hE6);clear hE6))
     go_ret
     exact ⟨by rw [HQ.out];rfl,E6.out⟩
    ·have HQ : Hid (V = 0) := hid (by rw [HV4.out,if_neg h68])
     have h1 : decide ((6800 : Int) < (ml : Int)) = false := decide_eq_false (by omega)
     have h2 : decide (6800 < ml) = false := decide_eq_false h68
     clear h68
     go_wp2_with (first
      | (refine wpList_load_blk rfl 37 (.tmp 1) rfl w.heap.size (by kernel_rfl) BI.out Tryz.underlying37 rfl (pat_info.trans rfl) ?_)
      | (go_at_call 13;(with_reducible refine (HMS.out wi EWI.out).mono ?_);rintro e w6 ⟨⟨A6,c6,rfl⟩,hE6⟩;have E6 : Hid (Ext w w6) := hid (EWI.out.next hE6);clear hE6))
     go_ret
     exact ⟨by rw [HQ.out];rfl,E6.out⟩
end Go.Proofs.YtojcmcccahjphaaGreatDoor
