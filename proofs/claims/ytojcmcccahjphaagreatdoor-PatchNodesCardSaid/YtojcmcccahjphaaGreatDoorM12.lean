/- Package patch: whether an operation is valid. Conditions: OpV; the tables of contents and shapes are laid. -/
import Derived.Test.YtojcmcccahjphaaGreatDoorM11
import Derived.Test.YtojcmcccahjphaaGreatDoorM7
import Derived.Lib.AppendZeros
set_option linter.unusedSimpArgs false
set_option linter.unusedVariables false
set_option maxHeartbeats 16000000
set_option maxRecDepth 100000
set_option maxRecDepth 100000
set_option maxHeartbeats 16000000
namespace Go.Proofs.YtojcmcccahjphaaGreatDoor
open Go.RowKit
open Lib (hid)
attribute [local go_sem ↓] wp_at_zero wp_at_succ
structure Shap where
 on : Bool
 to' : Bool
 nam : Bool
 typ : Bool
 nod : Bool
 txt : Bool
 hi : Int
 mo : Int
def shapL : List Shap := [⟨false,false,true,false,false,false,0,0⟩,⟨true,true,false,false,false,false,1,0⟩,⟨true,false,true,false,false,false,5,0⟩,⟨true,false,true,true,false,false,1023,64⟩,⟨false,false,false,false,true,false,0,0⟩,⟨true,false,true,false,false,false,0,0⟩,⟨true,true,false,false,false,false,0,0⟩,⟨true,false,false,false,false,false,1023,0⟩,⟨true,false,false,false,false,false,1,0⟩,⟨true,false,false,true,false,false,0,64⟩,⟨true,false,false,true,false,false,0,0⟩,⟨true,true,false,false,false,false,0,0⟩,⟨true,false,false,false,true,false,0,0⟩,⟨true,false,false,false,false,true,0,0⟩]
def shapC (c : Shap) : List Value := [.bool c.on,.bool c.to',.bool c.nam,.bool c.typ,.bool c.nod,.bool c.txt,.int .i64 c.hi,.int .i64 c.mo]
def STab (w : World) : Prop := Tab w 0 (shapL.flatMap shapC)
theorem STab.below {w w' : World} (h : STab w) (hE : Ext w w') : STab w' := Tab.below h hE (Tab.lt h)
theorem shap_at {w : World} (h : STab w) {k : Nat} {c : Shap} (hc : shapL[k]? = some c) : w.rangeAt 0 (k * 8) (shapC c) := fun j v hv => by
 rw [Tab.cell h,← hv]
 exact flatK_at shapC 8 shapL (fun x _ => rfl) k c hc j (List.getElem?_eq_some_iff.1 hv).1
theorem shap_info : (Tryz.prog.info? 67).map (·.size) = some 8 := by kernel_rfl
structure OpA where
 k : Int
 on : Rid
 to' : Rid
 n : Int
 most : Int
 name : ByteArray
 ty : List TyN
 node : NodA
 texts : List ByteArray
def opC (x : OpA) (t nd : List Value) (s : Value) : List Value := [.int .i64 x.k,.int .i64 x.on.s,.int .i64 x.on.q,.int .i64 x.on.i,.int .i64 x.to'.s,.int .i64 x.to'.q,.int .i64 x.to'.i,.int .i64 x.n,.int .i64 x.most,.string x.name] ++ t ++ nd ++ [s]
structure OpS (w : World) (x : OpA) (t nd : List Value) (A : Option Addr) (n c : Nat) : Prop where
 ty : TyV w x.ty t
 nod : NodV w x.node nd
 txt : Rd w w.heap.size A n (x.texts.map Value.string)
 tle : n ≤ c
 tcap : c ≤ 9223372036854775807
 tfew : n ≤ 1000000
def OpV (w : World) (x : OpA) (cs : List Value) : Prop := ∃ t nd A n c,cs = opC x t nd (.slice A n c) ∧ OpS w x t nd A n c
theorem OpS.ext {w w' : World} (hE : Ext w w') {x : OpA} {t nd : List Value} {A : Option Addr} {n c : Nat} (h : OpS w x t nd A n c) : OpS w' x t nd A n c :=
 ⟨h.ty.ext hE,h.nod.ext hE,h.txt.ext' hE,h.tle,h.tcap,h.tfew⟩
theorem OpV.ext {w w' : World} (hE : Ext w w') {x : OpA} {cs : List Value} (h : OpV w x cs) : OpV w' x cs := by
 obtain ⟨t,nd,A,n,c,h1,h2⟩ := h
 exact ⟨t,nd,A,n,c,h1,h2.ext hE⟩
theorem OpV.len {w : World} {x : OpA} {cs : List Value} (h : OpV w x cs) : cs.length = 28 := by
 obtain ⟨t,nd,A,n,c,h1,h2⟩ := h
 rw [h1]
 simp [opC,h2.ty.len,h2.nod.len]
theorem OpV.one {w : World} {x : OpA} {cs : List Value} (h : OpV w x cs) : ∀ v ∈ cs,v.oneCell' = true := by
 obtain ⟨t,nd,A,n,c,h1,h2⟩ := h
 intro v hv
 rw [h1] at hv
 unfold opC at hv
 rcases List.mem_append.1 hv with hv | hv
 ·rcases List.mem_append.1 hv with hv | hv
  ·rcases List.mem_append.1 hv with hv | hv
   ·simp only [List.mem_cons,List.not_mem_nil,or_false] at hv
    rcases hv with rfl | rfl | rfl | rfl | rfl | rfl | rfl | rfl | rfl | rfl <;> rfl
   ·exact h2.ty.one v hv
  ·exact h2.nod.one v hv
 ·simp only [List.mem_cons,List.not_mem_nil,or_false] at hv
  subst hv
  rfl
theorem op_info : (Tryz.prog.info? 33).map (·.size) = some 28 := by kernel_rfl
def shap0 : Shap := ⟨false,false,false,false,false,false,0,0⟩
def shapOf (x : OpA) : Shap := shapL.getD x.k.toNat shap0
def opBad1 (x : OpA) : Bool := ((shapOf x).on != !decide (x.on = ⟨0,0,0⟩)) || (((shapOf x).on && !idB x.on) || (((shapOf x).to' != !decide (x.to' = ⟨0,0,0⟩)) || (((shapOf x).to' && !idB x.to') || (!winB x.n 0 (shapOf x).hi || !winB x.most 0 (shapOf x).mo))))
def opBad2 (x : OpA) : Bool := ((shapOf x).nam && !nameB x.name) || ((!(shapOf x).nam && (!decide (x.name.toList = []))) || (((shapOf x).typ && !formedB x.ty 24) || ((!(shapOf x).typ && !zeroB x.ty) || (((shapOf x).nod && !nodeB x.node) || (!(shapOf x).nod && !emptyB x.node)))))
def opBad3 (x : OpA) : Bool := (!(shapOf x).txt && decide (0 < x.texts.length)) || decide (256 < x.texts.length)
def textB (s : ByteArray) : Bool := !decide (256 < s.size)
def operB (x : OpA) : Bool := if x.k < 0 then false else if 14 ≤ x.k then false else if opBad1 x then false else if opBad2 x then false else if opBad3 x then false else x.texts.all textB
theorem oper1_any (s : ByteArray) (w : World) : Calls Tryz.prog 29 #[.string s] w fun e w' => e = .returned (.bool (!textB s)) ∧ Ext w w' := by
 unfold textB
 rw [Bool.not_not]
 obtain ⟨z,hz⟩ : ∃ z,z = s.size := ⟨_,rfl⟩
 have hd : decide (256 < (z : Int)) = decide (256 < z) := by
  by_cases h : 256 < z
  ·rw [decide_eq_true h,decide_eq_true (by omega)]
  ·rw [decide_eq_false h,decide_eq_false (by omega)]
 rw [← hz]
 generalize decide (256 < z) = b at *
 have hs : s.size = z := hz.symm
 clear hz
 go_enter Tryz.func29,Tryz.ntmps29
 go_wp2_with fail
 go_ret
 exact ⟨by simp_all,Ext.refl _⟩
theorem texts_any (L : List ByteArray) (A : Option Addr) (n c : Nat) (w : World) (hl : Rd w w.heap.size A n (L.map Value.string)) (hn : n ≤ 1000000) :
  Calls Tryz.prog 28 #[.slice A n c,.func (.func 29) #[] #[]] w fun e w' => e = .returned (.bool (!L.all textB)) ∧ Ext w w' := by
 have hrl := strs_n hl
 rw [← any_nall L n hrl ⟨#[]⟩]
 rcases Nat.eq_zero_or_pos n with h0 | h0
 ·exact containsF_tx (n := n) A c _ w 0 0 (fun h => by omega) (fun j => .string (L.getD j ⟨#[]⟩)) (fun j hj => by omega) (by omega) (fun j hj => by omega)
 ·obtain ⟨b,p,hA,hb,hrg⟩ := hl.2 h0
  exact containsF_tx (n := n) A c _ w b p (fun _ => hA) (fun j => .string (L.getD j ⟨#[]⟩)) (fun j hj W hW => (hW.cell (p := ⟨b,p + j,none⟩) hb).trans (hrg j _ (by rw [List.getElem?_map,List.getD_eq_getElem?_getD,List.getElem?_eq_getElem (by omega)];rfl))) (by omega) (fun j hj W hW => oper1_any (L.getD j ⟨#[]⟩) W)
theorem list12 (t : List Value) (h : t.length = 12) : ∃ a b c d e f g i j k l m,t = [a,b,c,d,e,f,g,i,j,k,l,m] := by
 obtain ⟨a,b,c,d,e,h1⟩ := list5 (t.take 5) (by rw [List.length_take];omega)
 obtain ⟨f,g,i,j,k,h2⟩ := list5 ((t.drop 5).take 5) (by rw [List.length_take,List.length_drop];omega)
 have h3 : ((t.drop 5).drop 5).length = 2 := by rw [List.length_drop,List.length_drop];omega
 rcases h4 : (t.drop 5).drop 5 with _ | ⟨l,r⟩
 ·rw [h4] at h3;cases h3
 rcases r with _ | ⟨m,r⟩
 ·rw [h4] at h3;cases h3
 rcases r with _ | ⟨z,r⟩
 ·refine ⟨a,b,c,d,e,f,g,i,j,k,l,m,?_⟩
  rw [← List.take_append_drop 5 t,← List.take_append_drop 5 (t.drop 5),h1,h2,h4]
  rfl
 ·rw [h4] at h3;simp at h3
theorem oper_any (x : OpA) (cs : List Value) (w : World) (hx : OpV w x cs) (hT : CTab w) (hU : STab w) : Calls Tryz.prog 12 #[.agg cs.toArray] w fun e w' => e = .returned (.bool (operB x)) ∧ Ext w w' := by
 obtain ⟨t,nd,A,n,c,rfl,hS⟩ := hx
 have htn := strs_n hS.txt
 have htf := hS.tfew
 obtain ⟨b1,hb1⟩ : ∃ b,b = opBad1 x := ⟨_,rfl⟩
 obtain ⟨b2,hb2⟩ : ∃ b,b = opBad2 x := ⟨_,rfl⟩
 obtain ⟨b3,hb3⟩ : ∃ b,b = opBad3 x := ⟨_,rfl⟩
 obtain ⟨b4,hb4⟩ : ∃ b,b = x.texts.all textB := ⟨_,rfl⟩
 have HF : Hid (operB x = if x.k < 0 then false else if 14 ≤ x.k then false else if b1 then false else if b2 then false else if b3 then false else b4) := hid (by unfold operB;rw [hb1,hb2,hb3,hb4])
 have HK4 : Hid (∀ W,Ext w W → Calls Tryz.prog 28 #[.slice A n c,.func (.func 29) #[] #[]] W fun e w' => e = .returned (.bool (!b4)) ∧ Ext W w') := hid (fun W hW => by rw [hb4];exact texts_any x.texts A n c W (hS.ext hW).txt hS.tfew)
 have HFM : Hid (∀ W,Ext w W → Calls Tryz.prog 24 #[.agg t.toArray,.int .i64 24] W fun e w' => e = .returned (.bool (formedB x.ty 24)) ∧ Ext W w') := hid (fun W hW => formed_any x.ty 24 t W (hS.ty.ext hW) (by decide))
 have HZR : Hid (∀ W,Ext w W → Calls Tryz.prog 25 #[.agg t.toArray] W fun e w' => e = .returned (.bool (zeroB x.ty)) ∧ Ext W w') := hid (fun W hW => zero_any x.ty t W (hS.ty.ext hW))
 have HND : Hid (∀ W,Ext w W → Calls Tryz.prog 26 #[.agg nd.toArray] W fun e w' => e = .returned (.bool (nodeB x.node)) ∧ Ext W w') := hid (fun W hW => pnode_any x.node nd W (hS.nod.ext hW) (hT.below hW))
 have HEM : Hid (∀ W,Ext w W → Calls Tryz.prog 27 #[.agg nd.toArray] W fun e w' => e = .returned (.bool (emptyB x.node)) ∧ Ext W w') := hid (fun W hW => empty_any x.node nd W (hS.nod.ext hW))
 have HV1 : Hid (∀ W,Calls Tryz.prog 22 #[.agg #[.int .i64 x.on.s,.int .i64 x.on.q,.int .i64 x.on.i]] W fun e w' => e = .returned (.bool (idB x.on)) ∧ Ext W w') := hid (fun W => pvalid_any x.on W)
 have HV2 : Hid (∀ W,Calls Tryz.prog 22 #[.agg #[.int .i64 x.to'.s,.int .i64 x.to'.q,.int .i64 x.to'.i]] W fun e w' => e = .returned (.bool (idB x.to')) ∧ Ext W w') := hid (fun W => pvalid_any x.to' W)
 have HNB : Hid (∀ W,Calls Tryz.prog 23 #[.string x.name] W fun e w' => e = .returned (.bool (nameB x.name)) ∧ W = w') := hid (fun W => pname_any x.name W)
 obtain ⟨t0,t1,t2,t3,t4,rfl⟩ := list5 t hS.ty.len
 obtain ⟨e0,e1,e2,e3,e4,e5,e6,e7,e8,e9,e10,e11,rfl⟩ := list12 nd hS.nod.len
 obtain ⟨Y,hY⟩ : ∃ y,y = operB x := ⟨_,rfl⟩
 rw [← hY] at HF ⊢
 obtain ⟨C,hC⟩ : ∃ C,C = shapOf x := ⟨_,rfl⟩
 obtain ⟨ob,hob⟩ : ∃ z,z = decide (x.on = ⟨0,0,0⟩) := ⟨_,rfl⟩
 obtain ⟨tb,htb⟩ : ∃ z,z = decide (x.to' = ⟨0,0,0⟩) := ⟨_,rfl⟩
 obtain ⟨v1,hv1⟩ : ∃ z,z = idB x.on := ⟨_,rfl⟩
 obtain ⟨v2,hv2⟩ : ∃ z,z = idB x.to' := ⟨_,rfl⟩
 obtain ⟨fb,hfb⟩ : ∃ z,z = formedB x.ty 24 := ⟨_,rfl⟩
 obtain ⟨zb,hzb⟩ : ∃ z,z = zeroB x.ty := ⟨_,rfl⟩
 obtain ⟨nb,hnb⟩ : ∃ z,z = nodeB x.node := ⟨_,rfl⟩
 obtain ⟨eb,heb⟩ : ∃ z,z = emptyB x.node := ⟨_,rfl⟩
 obtain ⟨ab,hab⟩ : ∃ z,z = nameB x.name := ⟨_,rfl⟩
 obtain ⟨sb,hsb⟩ : ∃ z,z = (!decide (x.name.toList = [])) := ⟨_,rfl⟩
 obtain ⟨r1,hr1⟩ : ∃ z,z = winB x.n 0 C.hi := ⟨_,rfl⟩
 obtain ⟨r2,hr2⟩ : ∃ z,z = winB x.most 0 C.mo := ⟨_,rfl⟩
 have HB1 : Hid (b1 = ((C.on != !ob) || ((C.on && !v1) || ((C.to' != !tb) || ((C.to' && !v2) || (!r1 || !r2)))))) := hid (by rw [hb1,hob,htb,hv1,hv2,hr1,hr2,hC];rfl)
 have HB2 : Hid (b2 = ((C.nam && !ab) || ((!C.nam && sb) || ((C.typ && !fb) || ((!C.typ && !zb) || ((C.nod && !nb) || (!C.nod && !eb))))))) := hid (by rw [hb2,hab,hsb,hfb,hzb,hnb,heb,hC];rfl)
 have HB3 : Hid (b3 = ((!C.txt && decide (0 < n)) || decide (256 < n))) := hid (by rw [hb3,hC];unfold opBad3;rw [htn])
 have HSB : Hid (sb = (!decide (x.name.toList = []))) := hid hsb
 have HTC : Hid (0 ≤ x.k → x.k < 14 → ∀ W,Ext w W → W.rangeAt 0 (x.k.toNat * 8) (shapC C)) := hid (fun h1 h2 W hW => by
  refine shap_at (hU.below hW) ?_
  rw [hC]
  unfold shapOf
  rw [List.getD_eq_getElem?_getD,List.getElem?_eq_getElem (show x.k.toNat < shapL.length by simp [shapL];omega)]
  rfl)
 have HW1 : Hid (∀ W,Calls Tryz.prog 11 #[.int .i64 x.n,.int .i64 0,.int .i64 C.hi] W fun e w2 => e = .returned (.bool r1) ∧ W = w2) := hid (fun W => by rw [hr1];exact pwithin_any x.n 0 C.hi W)
 have HW2 : Hid (∀ W,Calls Tryz.prog 11 #[.int .i64 x.most,.int .i64 0,.int .i64 C.mo] W fun e w2 => e = .returned (.bool r2) ∧ W = w2) := hid (fun W => by rw [hr2];exact pwithin_any x.most 0 C.mo W)
 rw [← hfb] at HFM
 rw [← hzb] at HZR
 rw [← hnb] at HND
 rw [← heb] at HEM
 rw [← hv1] at HV1
 rw [← hv2] at HV2
 rw [← hab] at HNB
 obtain ⟨k,⟨s,q,i⟩,⟨s2,q2,i2⟩,N,M,nam,ty,node,texts⟩ := x
 dsimp only at *
 have HN : Hid ((!ob) = (true != decide ((⟨s,q,i⟩ : Rid) = ⟨0,0,0⟩))) := hid (by rw [hob];cases (decide ((⟨s,q,i⟩ : Rid) = ⟨0,0,0⟩)) <;> rfl)
 have HN2 : Hid ((!tb) = (true != decide ((⟨s2,q2,i2⟩ : Rid) = ⟨0,0,0⟩))) := hid (by rw [htb];cases (decide ((⟨s2,q2,i2⟩ : Rid) = ⟨0,0,0⟩)) <;> rfl)
 have HSN : Hid (sb = !decide (nam.toList = [])) := HSB
 clear hS htn hb1 hb2 hb3 hb4 hC hob htb hv1 hv2 hfb hzb hnb heb hab hsb hr1 hr2 hT hU hY HSB
 obtain ⟨on,to2,nm,typ,nod,txt,hi,mo⟩ := C
 dsimp only [shapC] at *
 show Calls Tryz.prog 12 #[.agg #[.int .i64 k,.int .i64 s,.int .i64 q,.int .i64 i,.int .i64 s2,.int .i64 q2,.int .i64 i2,.int .i64 N,.int .i64 M,.string nam,t0,t1,t2,t3,t4,e0,e1,e2,e3,e4,e5,e6,e7,e8,e9,e10,e11,.slice A n c]] w _
 obtain ⟨w1,hw1⟩ : ∃ x,x = w.alloc (.cells #[.int .i64 k,.int .i64 s,.int .i64 q,.int .i64 i,.int .i64 s2,.int .i64 q2,.int .i64 i2,.int .i64 N,.int .i64 M,.string nam,t0,t1,t2,t3,t4,e0,e1,e2,e3,e4,e5,e6,e7,e8,e9,e10,e11,.slice A n c] 33) := ⟨_,rfl⟩
 have E1 : Hid (Ext w w1) := hid (by rw [hw1];exact (Ext.refl w).alloc _)
 have B1 : Hid (Blk w1 w.heap.size 33 [.int .i64 k,.int .i64 s,.int .i64 q,.int .i64 i,.int .i64 s2,.int .i64 q2,.int .i64 i2,.int .i64 N,.int .i64 M,.string nam,t0,t1,t2,t3,t4,e0,e1,e2,e3,e4,e5,e6,e7,e8,e9,e10,e11,.slice A n c]) := hid (by rw [hw1];exact Blk.fresh' _ _ _ _ _ rfl rfl)
 obtain ⟨g,hg⟩ : ∃ g,g = w.heap.size := ⟨_,rfl⟩
 go_enter Tryz.func12,Tryz.ntmps12
 go_upto_region 1 with fail
 change Code.wp _ _ _ _ (w.alloc (.cells #[.int .i64 k,.int .i64 s,.int .i64 q,.int .i64 i,.int .i64 s2,.int .i64 q2,.int .i64 i2,.int .i64 N,.int .i64 M,.string nam,t0,t1,t2,t3,t4,e0,e1,e2,e3,e4,e5,e6,e7,e8,e9,e10,e11,.slice A n c] 33))
 rw [← hw1]
 rw [← hg] at B1 ⊢
 have HG : Hid (w.heap.size ≤ g) := hid (by omega)
 clear hw1 hg
 have c0 := B1.out.cell 0
 by_cases hk0 : k < 0
 ·have HY : Hid (Y = false) := hid (HF.out.trans (if_pos hk0))
  have h1 : decide (k < 0) = true := decide_eq_true hk0
  clear hk0
  go_wp2_with fail
  go_ret
  exact ⟨by rw [HY.out];rfl,E1.out⟩
 by_cases hk13 : 14 ≤ k
 ·have HY : Hid (Y = false) := hid (HF.out.trans ((if_neg hk0).trans (if_pos hk13)))
  have h1 : decide (k < 0) = false := decide_eq_false hk0
  have h2 : decide (14 ≤ k) = true := decide_eq_true hk13
  clear hk0 hk13
  go_wp2_with fail
  go_ret
  exact ⟨by rw [HY.out];rfl,E1.out⟩
 have HY : Hid (Y = if b1 then false else if b2 then false else if b3 then false else b4) := hid (HF.out.trans ((if_neg hk0).trans (if_neg hk13)))
 clear HF
 have HRT := hid (HTC.out (by omega) (by omega))
 obtain ⟨kn,rfl⟩ := Int.eq_ofNat_of_zero_le (show 0 ≤ k by omega)
 rw [Int.toNat_natCast] at HRT
 have h1 : decide ((kn : Int) < 0) = false := decide_eq_false hk0
 have h2 : decide (14 ≤ (kn : Int)) = false := decide_eq_false hk13
 have h3 : decide (14 ≤ kn) = false := decide_eq_false (by omega)
 have hkn13 : kn < 14 := by omega
 have HRT1 := hid (HRT.out w1 E1.out)
 clear hk0 hk13 HTC
 go_upto_region 4 with (first
  | ((with_reducible refine wpList_load_row 67 0 (kn * 8) [.bool on,.bool to2,.bool nm,.bool typ,.bool nod,.bool txt,.int .i64 hi,.int .i64 mo] HRT1.out Tryz.underlying67 rfl (shap_info.trans rfl) ?_ ?_ ?_);kernel_rfl;rfl)
  | (refine wpList_store_freshw rfl 67 (.tmp 3) (.tmp 15) rfl w1.heap.size rfl [.bool false,.bool false,.bool false,.bool false,.bool false,.bool false,.int .i64 0,.int .i64 0] [.bool on,.bool to2,.bool nm,.bool typ,.bool nod,.bool txt,.int .i64 hi,.int .i64 mo] 67 (by kernel_rfl) (by kernel_rfl) (shap_info.trans rfl) rfl (by intro v hv;simp only [List.mem_cons,List.not_mem_nil,or_false] at hv;rcases hv with rfl | rfl | rfl | rfl | rfl | rfl | rfl | rfl <;> rfl) ?_;intro w4 hw4 hE4 hz4;have B4 := hid hw4;have E4 : Hid (Ext w w4) := hid (E1.out.next hE4);have B14 := hid (B1.out.ext hE4);clear hw4 hE4 hz4))
 obtain ⟨gc,hgc⟩ : ∃ g,g = w1.heap.size := ⟨_,rfl⟩
 rw [← hgc] at B4 ⊢
 clear hgc HRT HRT1 E1 B1 c0 h1 h2 h3 hkn13
 have x1 : ∀ X : ExtW w4,X.at_.cell? ⟨g,1,none⟩ = some (.int .i64 s) := fun X => (B14.out.ext X.ext).cell 1
 have x2 : ∀ X : ExtW w4,X.at_.cell? ⟨g,2,none⟩ = some (.int .i64 q) := fun X => (B14.out.ext X.ext).cell 2
 have x3 : ∀ X : ExtW w4,X.at_.cell? ⟨g,3,none⟩ = some (.int .i64 i) := fun X => (B14.out.ext X.ext).cell 3
 have x4 : ∀ X : ExtW w4,X.at_.cell? ⟨g,4,none⟩ = some (.int .i64 s2) := fun X => (B14.out.ext X.ext).cell 4
 have x5 : ∀ X : ExtW w4,X.at_.cell? ⟨g,5,none⟩ = some (.int .i64 q2) := fun X => (B14.out.ext X.ext).cell 5
 have x6 : ∀ X : ExtW w4,X.at_.cell? ⟨g,6,none⟩ = some (.int .i64 i2) := fun X => (B14.out.ext X.ext).cell 6
 have x7 : ∀ X : ExtW w4,X.at_.cell? ⟨g,7,none⟩ = some (.int .i64 N) := fun X => (B14.out.ext X.ext).cell 7
 have x8 : ∀ X : ExtW w4,X.at_.cell? ⟨g,8,none⟩ = some (.int .i64 M) := fun X => (B14.out.ext X.ext).cell 8
 have y0 : ∀ X : ExtW w4,X.at_.cell? ⟨gc,0,none⟩ = some (.bool on) := fun X => (B4.out.ext X.ext).cell 0
 have y1 : ∀ X : ExtW w4,X.at_.cell? ⟨gc,1,none⟩ = some (.bool to2) := fun X => (B4.out.ext X.ext).cell 1
 have y6 : ∀ X : ExtW w4,X.at_.cell? ⟨gc,6,none⟩ = some (.int .i64 hi) := fun X => (B4.out.ext X.ext).cell 6
 have y7 : ∀ X : ExtW w4,X.at_.cell? ⟨gc,7,none⟩ = some (.int .i64 mo) := fun X => (B4.out.ext X.ext).cell 7
 simp only [Act.put]
 go_cut [67] from 16 to 66 (fun s67 wx => s67 = .bool b1 ∧ Ext w4 wx)
 case first =>
  refine wp_region_ext (by kernel_rfl) (by kernel_rfl) ?_
  clear HY HK4 HFM HZR HND HEM HNB HB2 HB3 HSN HG htf B4 B14 E4
  cases on
  focus
   cases ob
   focus
    have HBQ : Hid (b1 = true) := hid (by rw [HB1.out];rfl)
   rotate_left 1
   focus
    cases to2
    focus
     cases tb
     focus
      have HBQ : Hid (b1 = true) := hid (by rw [HB1.out];rfl)
     rotate_left 1
     focus
      cases r1
      focus
       have HBQ : Hid (b1 = true) := hid (by rw [HB1.out];rfl)
      rotate_left 1
      focus
       cases r2
       focus
        have HBQ : Hid (b1 = true) := hid (by rw [HB1.out];rfl)
       rotate_left 1
       focus
        have HBQ : Hid (b1 = false) := hid (by rw [HB1.out];rfl)
       rotate_left 1
      rotate_left 2
     rotate_left 3
    rotate_left 4
    focus
     cases tb
     focus
      cases v2
      focus
       have HBQ : Hid (b1 = true) := hid (by rw [HB1.out];rfl)
      rotate_left 1
      focus
       cases r1
       focus
        have HBQ : Hid (b1 = true) := hid (by rw [HB1.out];rfl)
       rotate_left 1
       focus
        cases r2
        focus
         have HBQ : Hid (b1 = true) := hid (by rw [HB1.out];rfl)
        rotate_left 1
        focus
         have HBQ : Hid (b1 = false) := hid (by rw [HB1.out];rfl)
        rotate_left 1
       rotate_left 2
      rotate_left 3
     rotate_left 4
     focus
      have HBQ : Hid (b1 = true) := hid (by rw [HB1.out];rfl)
     rotate_left 1
    rotate_left 5
   rotate_left 9
  rotate_left 10
  focus
   cases ob
   focus
    cases v1
    focus
     have HBQ : Hid (b1 = true) := hid (by rw [HB1.out];rfl)
    rotate_left 1
    focus
     cases to2
     focus
      cases tb
      focus
       have HBQ : Hid (b1 = true) := hid (by rw [HB1.out];rfl)
      rotate_left 1
      focus
       cases r1
       focus
        have HBQ : Hid (b1 = true) := hid (by rw [HB1.out];rfl)
       rotate_left 1
       focus
        cases r2
        focus
         have HBQ : Hid (b1 = true) := hid (by rw [HB1.out];rfl)
        rotate_left 1
        focus
         have HBQ : Hid (b1 = false) := hid (by rw [HB1.out];rfl)
        rotate_left 1
       rotate_left 2
      rotate_left 3
     rotate_left 4
     focus
      cases tb
      focus
       cases v2
       focus
        have HBQ : Hid (b1 = true) := hid (by rw [HB1.out];rfl)
       rotate_left 1
       focus
        cases r1
        focus
         have HBQ : Hid (b1 = true) := hid (by rw [HB1.out];rfl)
        rotate_left 1
        focus
         cases r2
         focus
          have HBQ : Hid (b1 = true) := hid (by rw [HB1.out];rfl)
         rotate_left 1
         focus
          have HBQ : Hid (b1 = false) := hid (by rw [HB1.out];rfl)
         rotate_left 1
        rotate_left 2
       rotate_left 3
      rotate_left 4
      focus
       have HBQ : Hid (b1 = true) := hid (by rw [HB1.out];rfl)
      rotate_left 1
     rotate_left 5
    rotate_left 9
   rotate_left 10
   focus
    have HBQ : Hid (b1 = true) := hid (by rw [HB1.out];rfl)
   rotate_left 1
  rotate_left 11
  all_goals
   repeat (first
    | go_big_quiet_skip
    | (go_big_quiet_want;refine quiet_idEq true _ _ _ rfl s q i 0 0 0 rfl rfl _ HN.out ?_;simp only [Act.put,List.setIfInBounds_toArray,List.set_cons_succ,List.set_cons_zero];go_big_quiet_on)
    | (go_big_quiet_want;refine quiet_idEq true _ _ _ rfl s2 q2 i2 0 0 0 rfl rfl _ HN2.out ?_;simp only [Act.put,List.setIfInBounds_toArray,List.set_cons_succ,List.set_cons_zero];go_big_quiet_on)
    | (go_big_quiet_want;go_big_quiet_op;first
     | go_big_quiet_on
     | (apply Exists.intro;refine ⟨fun X => ?_,?_⟩;(first | (go_at_call 11;(with_reducible refine (HW1.out _).mono ?_);rintro e w2 ⟨rfl,rfl⟩;exact ⟨rfl,X,rfl⟩) | (go_at_call 11;(with_reducible refine (HW2.out _).mono ?_);rintro e w2 ⟨rfl,rfl⟩;exact ⟨rfl,X,rfl⟩) | (go_at_call 22;(with_reducible refine (HV1.out _).mono ?_);rintro e w2 ⟨rfl,hE2⟩;exact ⟨rfl,⟨w2,X.ext.next hE2⟩,rfl⟩) | (go_at_call 22;(with_reducible refine (HV2.out _).mono ?_);rintro e w2 ⟨rfl,hE2⟩;exact ⟨rfl,⟨w2,X.ext.next hE2⟩,rfl⟩));go_big_quiet_on)))
   refine wpQuiet_nil ?_
   rintro _ ⟨X,rfl⟩
   have ES := hid X.ext
   generalize X.at_ = ws at *
   go_wp2_with fail
   go_meet
   exact ⟨by rw [HBQ.out],ES.out⟩
 case rest =>
 obtain ⟨rfl,hE5⟩ := hcut
 obtain ⟨w5,rfl⟩ : ∃ x : World,x = wc := ⟨_,rfl⟩
 have E5 : Hid (Ext w w5) := hid (E4.out.next hE5)
 have B15 := hid (B14.out.ext hE5)
 have B5 := hid (B4.out.ext hE5)
 clear hE5 x1 x2 x3 x4 x5 x6 x7 x8 y0 y1 y6 y7 HW1 HW2 HV1 HV2 HB1 HN HN2 B4 B14 E4
 cases b1
 case true =>
  have HYQ : Hid (Y = false) := hid (by rw [HY.out];rfl)
  go_wp2_with fail
  go_ret
  exact ⟨by rw [HYQ.out];rfl,E5.out⟩
 have HY3 : Hid (Y = if b2 then false else if b3 then false else b4) := hid (by rw [HY.out];rfl)
 have HRT := hid (range_mid B15.out.range 10 [t0,t1,t2,t3,t4] rfl)
 have HRN := hid (range_mid B15.out.range 15 [e0,e1,e2,e3,e4,e5,e6,e7,e8,e9,e10,e11] rfl)
 have f2 := B5.out.cell 2
 have f3 := B5.out.cell 3
 have f4 := B5.out.cell 4
 have f9 := B15.out.cell 9
 go_upto_region 6 with fail
 go_cut [127] from 68 to 126 (fun s127 wx => s127 = .bool b2 ∧ Ext w5 wx)
 case first =>
  have EX : Hid (Ext w5 w5) := hid (Ext.refl _)
  have BX := B15
  have SX := B5
  clear HY HY3 HK4 HB3 HG htf B15 B5
  cases nm
  focus
   by_cases hsn : nam.toList = []
   focus
    have hsb : sb = false := by rw [HSN.out,decide_eq_true hsn];rfl
    rw [hsb] at HB2
    clear HSN hsb
    cases typ
    focus
     cases zb
     focus
      have HBQ : Hid (b2 = true) := hid (by rw [HB2.out];rfl)
     rotate_left 1
     focus
      cases nod
      focus
       cases eb
       focus
        have HBQ : Hid (b2 = true) := hid (by rw [HB2.out];rfl)
       rotate_left 1
       focus
        have HBQ : Hid (b2 = false) := hid (by rw [HB2.out];rfl)
       rotate_left 1
      rotate_left 2
      focus
       cases nb
       focus
        have HBQ : Hid (b2 = true) := hid (by rw [HB2.out];rfl)
       rotate_left 1
       focus
        have HBQ : Hid (b2 = false) := hid (by rw [HB2.out];rfl)
       rotate_left 1
      rotate_left 2
     rotate_left 4
    rotate_left 5
    focus
     cases fb
     focus
      have HBQ : Hid (b2 = true) := hid (by rw [HB2.out];rfl)
     rotate_left 1
     focus
      cases nod
      focus
       cases eb
       focus
        have HBQ : Hid (b2 = true) := hid (by rw [HB2.out];rfl)
       rotate_left 1
       focus
        have HBQ : Hid (b2 = false) := hid (by rw [HB2.out];rfl)
       rotate_left 1
      rotate_left 2
      focus
       cases nb
       focus
        have HBQ : Hid (b2 = true) := hid (by rw [HB2.out];rfl)
       rotate_left 1
       focus
        have HBQ : Hid (b2 = false) := hid (by rw [HB2.out];rfl)
       rotate_left 1
      rotate_left 2
     rotate_left 4
    rotate_left 5
   rotate_left 10
   focus
    have hsb : sb = true := by rw [HSN.out,decide_eq_false hsn];rfl
    rw [hsb] at HB2
    clear HSN hsb
    have HBQ : Hid (b2 = true) := hid (by rw [HB2.out];rfl)
   rotate_left 1
  rotate_left 11
  focus
   cases ab
   focus
    have HBQ : Hid (b2 = true) := hid (by rw [HB2.out];rfl)
   rotate_left 1
   focus
    cases typ
    focus
     cases zb
     focus
      have HBQ : Hid (b2 = true) := hid (by rw [HB2.out];rfl)
     rotate_left 1
     focus
      cases nod
      focus
       cases eb
       focus
        have HBQ : Hid (b2 = true) := hid (by rw [HB2.out];rfl)
       rotate_left 1
       focus
        have HBQ : Hid (b2 = false) := hid (by rw [HB2.out];rfl)
       rotate_left 1
      rotate_left 2
      focus
       cases nb
       focus
        have HBQ : Hid (b2 = true) := hid (by rw [HB2.out];rfl)
       rotate_left 1
       focus
        have HBQ : Hid (b2 = false) := hid (by rw [HB2.out];rfl)
       rotate_left 1
      rotate_left 2
     rotate_left 4
    rotate_left 5
    focus
     cases fb
     focus
      have HBQ : Hid (b2 = true) := hid (by rw [HB2.out];rfl)
     rotate_left 1
     focus
      cases nod
      focus
       cases eb
       focus
        have HBQ : Hid (b2 = true) := hid (by rw [HB2.out];rfl)
       rotate_left 1
       focus
        have HBQ : Hid (b2 = false) := hid (by rw [HB2.out];rfl)
       rotate_left 1
      rotate_left 2
      focus
       cases nb
       focus
        have HBQ : Hid (b2 = true) := hid (by rw [HB2.out];rfl)
       rotate_left 1
       focus
        have HBQ : Hid (b2 = false) := hid (by rw [HB2.out];rfl)
       rotate_left 1
      rotate_left 2
     rotate_left 4
    rotate_left 5
   rotate_left 10
  rotate_left 11
  all_goals
   go_wp2_with (first | ((with_reducible refine wpList_load_row 26 g 10 [t0,t1,t2,t3,t4] HRT.out Tryz.underlying26 rfl (ty_info.trans rfl) ?_ ?_ ?_);kernel_rfl;rfl) | ((with_reducible refine wpList_load_row 30 g 15 [e0,e1,e2,e3,e4,e5,e6,e7,e8,e9,e10,e11] HRN.out Tryz.underlying30 rfl (nod_info.trans rfl) ?_ ?_ ?_);kernel_rfl;rfl) | (go_at_call 23;(with_reducible refine (HNB.out _).mono ?_);rintro e w6 ⟨rfl,rfl⟩) | (go_at_call 24;(with_reducible refine (HFM.out _ (E5.out.next EX.out)).mono ?_);rintro e w6 ⟨rfl,hE6⟩;have EX := hid (EX.out.next hE6);have BX := hid (BX.out.ext hE6);have SX := hid (SX.out.ext hE6);have f2 := SX.out.cell 2;have f3 := SX.out.cell 3;have f4 := SX.out.cell 4;have f9 := BX.out.cell 9;have HRT := hid (range_mid BX.out.range 10 [t0,t1,t2,t3,t4] rfl);have HRN := hid (range_mid BX.out.range 15 [e0,e1,e2,e3,e4,e5,e6,e7,e8,e9,e10,e11] rfl);clear hE6) | (go_at_call 25;(with_reducible refine (HZR.out _ (E5.out.next EX.out)).mono ?_);rintro e w6 ⟨rfl,hE6⟩;have EX := hid (EX.out.next hE6);have BX := hid (BX.out.ext hE6);have SX := hid (SX.out.ext hE6);have f2 := SX.out.cell 2;have f3 := SX.out.cell 3;have f4 := SX.out.cell 4;have f9 := BX.out.cell 9;have HRT := hid (range_mid BX.out.range 10 [t0,t1,t2,t3,t4] rfl);have HRN := hid (range_mid BX.out.range 15 [e0,e1,e2,e3,e4,e5,e6,e7,e8,e9,e10,e11] rfl);clear hE6) | (go_at_call 26;(with_reducible refine (HND.out _ (E5.out.next EX.out)).mono ?_);rintro e w6 ⟨rfl,hE6⟩;have EX := hid (EX.out.next hE6);have BX := hid (BX.out.ext hE6);have SX := hid (SX.out.ext hE6);have f2 := SX.out.cell 2;have f3 := SX.out.cell 3;have f4 := SX.out.cell 4;have f9 := BX.out.cell 9;have HRT := hid (range_mid BX.out.range 10 [t0,t1,t2,t3,t4] rfl);have HRN := hid (range_mid BX.out.range 15 [e0,e1,e2,e3,e4,e5,e6,e7,e8,e9,e10,e11] rfl);clear hE6) | (go_at_call 27;(with_reducible refine (HEM.out _ (E5.out.next EX.out)).mono ?_);rintro e w6 ⟨rfl,hE6⟩;have EX := hid (EX.out.next hE6);have BX := hid (BX.out.ext hE6);have SX := hid (SX.out.ext hE6);have f2 := SX.out.cell 2;have f3 := SX.out.cell 3;have f4 := SX.out.cell 4;have f9 := BX.out.cell 9;have HRT := hid (range_mid BX.out.range 10 [t0,t1,t2,t3,t4] rfl);have HRN := hid (range_mid BX.out.range 15 [e0,e1,e2,e3,e4,e5,e6,e7,e8,e9,e10,e11] rfl);clear hE6))
   go_meet
   exact ⟨by rw [HBQ.out],EX.out⟩
 case rest =>
 obtain ⟨rfl,hE6⟩ := hcut
 obtain ⟨w6,rfl⟩ : ∃ x : World,x = wc := ⟨_,rfl⟩
 have E6 : Hid (Ext w w6) := hid (E5.out.next hE6)
 have B16 := hid (B15.out.ext hE6)
 have B6 := hid (B5.out.ext hE6)
 clear hE6 HRT HRN f2 f3 f4 f9
 have f5 := B6.out.cell 5
 have f27 := B16.out.cell 27
 cases b2
 case true =>
  have HYQ : Hid (Y = false) := hid (by rw [HY3.out];rfl)
  go_wp2_with fail
  go_ret
  exact ⟨by rw [HYQ.out];rfl,E6.out⟩
 have HY4 : Hid (Y = if b3 then false else b4) := hid (by rw [HY3.out];rfl)
 have HCF := HK4.out w6 E6.out
 have HCH := hid HCF
 clear HCF HK4 HY HY3 HB2 HFM HZR HND HEM HNB
 by_cases hl : 256 < n
 ·have hd1 : decide (256 < (n : Int)) = true := decide_eq_true (by omega)
  have hd2 : decide (256 < n) = true := decide_eq_true hl
  have hd3 : decide (0 < (n : Int)) = true := decide_eq_true (by omega)
  have hd4 : decide (0 < n) = true := decide_eq_true (by omega)
  have HYQ : Hid (Y = false) := hid (by rw [HY4.out,HB3.out,hd2];cases txt <;> cases (decide (0 < n)) <;> rfl)
  clear hl
  cases txt
  ·go_wp2_with fail
   go_ret
   exact ⟨by rw [HYQ.out];rfl,E6.out⟩
  ·go_wp2_with fail
   go_ret
   exact ⟨by rw [HYQ.out];rfl,E6.out⟩
 ·have hd1 : decide (256 < (n : Int)) = false := decide_eq_false (by omega)
  have hd2 : decide (256 < n) = false := decide_eq_false hl
  cases txt
  ·by_cases hz : 0 < n
   ·have hd3 : decide (0 < (n : Int)) = true := decide_eq_true (by omega)
    have hd4 : decide (0 < n) = true := decide_eq_true hz
    have HYQ : Hid (Y = false) := hid (by rw [HY4.out,HB3.out,hd2,hd4];rfl)
    clear hl hz
    go_wp2_with fail
    go_ret
    exact ⟨by rw [HYQ.out];rfl,E6.out⟩
   ·have hd3 : decide (0 < (n : Int)) = false := decide_eq_false (by omega)
    have hd4 : decide (0 < n) = false := decide_eq_false hz
    have HYQ : Hid (Y = b4) := hid (by rw [HY4.out,HB3.out,hd2,hd4];rfl)
    clear hl hz
    go_wp2_with (go_at_call 28;(with_reducible refine HCH.out.mono ?_);rintro e w7 ⟨rfl,hE7⟩)
    go_ret
    exact ⟨by rw [HYQ.out];cases b4 <;> rfl,E6.out.next hE7⟩
  ·have HYQ : Hid (Y = b4) := hid (by rw [HY4.out,HB3.out,hd2];rfl)
   clear hl
   go_wp2_with (go_at_call 28;(with_reducible refine HCH.out.mono ?_);rintro e w7 ⟨rfl,hE7⟩)
   go_ret
   exact ⟨by rw [HYQ.out];cases b4 <;> rfl,E6.out.next hE7⟩
end Go.Proofs.YtojcmcccahjphaaGreatDoor
/- slices.Grow and Concat at ints; patch.three; the closure of patch.encode that writes ints. Conditions: sizes that fit the memory. -/
set_option maxRecDepth 100000
set_option maxHeartbeats 16000000
namespace Go.Proofs.YtojcmcccahjphaaGreatDoor
open Go.RowKit
open Lib (hid)
def i8s (l : List Int) : List Value := l.map (Value.int .i64)
theorem i8s_one (l : List Int) : ∀ v ∈ i8s l,v.oneCell' = true := fun v hv => by
 obtain ⟨x,_,rfl⟩ := List.mem_map.1 hv
 rfl
theorem i8s_append (a b : List Int) : i8s (a ++ b) = i8s a ++ i8s b := List.map_append
theorem zeroCells_sizei (n : Nat) : (Builtin.zeroCells (Value.int .i64 0).cells n).size = n := by
 simp [Builtin.zeroCells,Value.cells]
theorem growi_any (n : Nat) (w : World) (hn : n ≤ 1000000000) :
  Calls Tryz.prog 79 #[.slice none 0 0,.int .i64 n] w fun e w' => ∃ A c,e = .returned (.slice A 0 c) ∧ w'.ownsRow w.heap.size 3 1 (.slice A 0 c) 0 [] ∧ Below w.heap.size w w' := by
 obtain ⟨i0,hi,hz0,hz1,hz2⟩ := info_parts winfo_int
 rcases Nat.eq_zero_or_pos n with h0 | h0
 ·subst h0
  go_enter Tryz.func79,Tryz.ntmps79
  go_wp2_with fail
  go_ret
  exact ⟨none,0,rfl,World.ownsRow_nil _ _ _ _,Below.refl _ _⟩
 ·have hrun := Lib.run_append_nil_zeros (P := Tryz.prog) w 43 3 43 3 i0 (.int .i64 0) .i64 .i64 Tryz.underlying43 Tryz.underlying3 hi hz0 n h0 (by rw [hz1];decide) (by omega) (by rw [hz2];omega)
  have hge := grownCap_ge w n 0 3
  have hle := grownCap_le_maxLen w n 0 3 (by simp only [maxLen];omega)
  generalize grownCap w n 0 3 = c at *
  obtain ⟨w1,hw1⟩ : ∃ w1,w1 = w.drew.alloc (.cells (Builtin.zeroCells (Value.int .i64 0).cells n ++ Builtin.zeroCells (Value.int .i64 0).cells (c - n)) 3) := ⟨_,rfl⟩
  rw [← hw1] at hrun
  have hc64 : c ≤ 9223372036854775807 := by unfold maxLen at hle;omega
  have HB : Hid (Below w.heap.size w w1) := hid (by rw [hw1];exact (Ext.refl w).drew.alloc _)
  have HO : Hid (w1.ownsRow w.heap.size 3 1 (.slice (some ⟨w.heap.size,0,none⟩) 0 c) 0 []) := hid (by
   rw [hw1]
   refine ⟨rfl,Or.inr ⟨w.heap.size,c,_,rfl,Nat.le_refl _,heap_alloc_new w.drew _,Nat.zero_le _,hle,?_,rfl⟩⟩
   simp only [Array.size_append,zeroCells_sizei]
   omega)
  clear hw1 hle
  go_enter Tryz.func79,Tryz.ntmps79
  go_wp2_with (at_builtin;refine Lib.wpList_append_run w rfl (.tmp 20) (.tmp 21) 43 3 rfl (.slice none 0 0) (.int .i64 n) rfl rfl _ _ hrun ?_)
  go_ret
  exact ⟨_,_,rfl,HO.out,HB.out⟩
def RdLi (w : World) (B g o : Nat) (ls : List (List Int)) : Prop := ∀ j,j < ls.length → ∃ A c,w.cell? ⟨g,o + j,none⟩ = some (.slice A (ls.getD j []).length c) ∧ Rd w B A (ls.getD j []).length (i8s (ls.getD j []))
def flatTi (ls : List (List Int)) (t : Nat) : List Int := (ls.take t).flatten
theorem flatTi_succ (ls : List (List Int)) (t : Nat) (h : t < ls.length) : flatTi ls (t + 1) = flatTi ls t ++ ls.getD t [] := by
 have : ls[t]? = some (ls.getD t []) := by simp [List.getD_eq_getElem?_getD,List.getElem?_eq_getElem h]
 unfold flatTi
 rw [List.take_add_one,this]
 simp
theorem flatTi_le (ls : List (List Int)) (t : Nat) : (flatTi ls t).length ≤ ls.flatten.length := by
 unfold flatTi
 conv => rhs;rw [← List.take_append_drop t ls,List.flatten_append,List.length_append]
 omega
theorem concati_any (ls : List (List Int)) (g o k c : Nat) (w : World) (hR : RdLi w w.heap.size g o ls) (hg : g < w.heap.size) (hk : ls.length = k) (hkc : k ≤ 1000000) (hlen : ls.flatten.length ≤ 1000000000) :
  Calls Tryz.prog 53 #[.slice (some ⟨g,o,none⟩) k c] w fun e w' => (∃ A' c',e = .returned (.slice A' ls.flatten.length c') ∧ w'.ownsRow w.heap.size 3 1 (.slice A' ls.flatten.length c') ls.flatten.length (i8s ls.flatten)) ∧ Below w.heap.size w w' := by
 obtain ⟨i0,hi,hz0,hz1,hz2⟩ := info_parts winfo_int
 have HR := hid hR;have HK := hid hk
 have HLE : Hid (∀ t,(flatTi ls t).length ≤ 1000000000) := hid (fun t => Nat.le_trans (flatTi_le ls t) hlen)
 have HF : Hid (flatTi ls k = ls.flatten) := hid (by unfold flatTi;rw [List.take_of_length_le (by omega)])
 have H0 : Hid (flatTi ls 0 = []) := hid rfl
 clear hR hk hlen
 go_enter Tryz.func53,Tryz.ntmps53
 go_wp2_with fail
 go_loopw [3,11] (fun s i wr => ∃ t : Nat,t ≤ k ∧ i = .int .i64 t ∧ s = .int .i64 (flatTi ls t).length ∧ wr = w) (fun _ i _ => k - (intOf i).toNat)
 case atStart => exact ⟨0,Nat.zero_le _,rfl,by rw [H0.out];rfl,rfl⟩
 case round =>
  obtain ⟨t,ht,rfl,rfl,hw⟩ := hrel
  subst hw
  have hbt := HLE.out t
  by_cases hlt : t < k
  ·obtain ⟨A,cc,hc,hr⟩ := HR.out t (by rw [HK.out];exact hlt)
   have hS := flatTi_succ ls t (by rw [HK.out];exact hlt)
   have hb2 := HLE.out (t + 1)
   rw [hS,List.length_append] at hb2
   have HS : Hid ((flatTi ls (t + 1)).length = (flatTi ls t).length + (ls.getD t []).length) := hid (by rw [hS,List.length_append])
   clear hS
   generalize (flatTi ls t).length = x at *
   generalize (ls.getD t []).length = y at *
   go_wp2_with fail
   go_roundw
   case rel => exact ⟨t + 1,by omega,by go_num,by rw [HS.out];go_num,trivial⟩
   case measure => simp [intOf];omega
  ·obtain rfl : t = k := by omega
   rw [HF.out] at hbt ⊢
   obtain ⟨N,hN⟩ : ∃ N,N = ls.flatten.length := ⟨_,rfl⟩
   rw [← hN] at hbt ⊢
   have HN := hid hN
   clear hN
   go_wp2_with (go_at_call 79;(with_reducible refine (growi_any N wr (by omega)).mono ?_);rintro e w1 ⟨A1,c1,rfl,hown1,hB1⟩)
   have HO1 := hid hown1;have HB1 := hid hB1
   clear hown1 hB1
   obtain ⟨w,rfl⟩ : ∃ x : World,x = wr := ⟨_,rfl⟩
   go_loopw [6,27] (fun s i wr => ∃ (q : Nat) (A : Option Addr) (c m : Nat),q ≤ t ∧ i = .int .i64 q ∧ s = .slice A m c ∧ m = (flatTi ls q).length ∧ wr.ownsRow w.heap.size 3 1 (.slice A m c) m (i8s (flatTi ls q)) ∧ Below w.heap.size w wr) (fun _ i _ => t - (intOf i).toNat)
   case atStart => exact ⟨0,A1,c1,0,Nat.zero_le _,rfl,rfl,by rw [H0.out];rfl,by rw [H0.out];exact HO1.out,HB1.out⟩
   case round =>
    clear HO1 HB1
    obtain ⟨q,A2,c2,m,hq,rfl,rfl,hm,hown,hB⟩ := hrel
    have hs := hB.size
    by_cases hlt2 : q < t
    ·obtain ⟨A,cc,hc,hr⟩ := HR.out q (by rw [HK.out];exact hlt2)
     have hc2 := (hB.cell (p := ⟨g,o + q,none⟩) hg).trans hc
     have hr2 := hid (RdN.of_Rd (hr.below hB))
     have hS := flatTi_succ ls q (by rw [HK.out];exact hlt2)
     have hsz := HLE.out (q + 1)
     rw [hS,List.length_append] at hsz
     have hm2 : m + (ls.getD q []).length ≤ 1000000000 := by rw [hm];exact hsz
     have HS := hid hS;have HM := hid hm;have HOW := hid hown
     clear hc hr hS hsz hm hown
     generalize ls.getD q [] = y at *
     obtain ⟨ky,hky⟩ : ∃ ky,ky = y.length := ⟨_,rfl⟩
     rw [← hky] at hc2 hr2 hm2
     have HKY := hid hky
     clear hky
     go_wp2_with (at_builtin;refine wpList_app rfl (.tmp 31) (.tmp 32) 43 rfl w.heap.size 3 i0 (.int .i64 0) 1 8 Tryz.underlying43 hi hz0 hz1 hz2 rfl (by omega) A2 m c2 _ rfl HOW.out w.heap.size A ky cc _ rfl hr2.out (i8s_one _) (by simp only [maxLen];omega) (by omega) hs ?_;intro A4 c4 w4 hown4 hg4;have hb4 := below_app hB hg4 HOW.out (Nat.le_refl _) hs)
     go_roundw
     case rel => exact ⟨q + 1,A4,c4,_,by omega,by go_num,rfl,by rw [HS.out,List.length_append,HM.out,HKY.out],by rw [HS.out,i8s_append];exact hown4,hb4⟩
     case measure => simp [intOf];omega
    ·obtain rfl : q = t := by omega
     have HM := hid hm
     clear hm
     go_wp2_with fail
     go_ret
     rw [HM.out,HF.out] at hown
     exact ⟨⟨A2,c2,by rw [HM.out,HF.out];rfl,hown⟩,hB⟩
def thrI (x : Rid) : List Int := [x.s,x.q,x.i]
section
attribute [local go_sem ↓] wp_at_zero wp_at_succ
theorem three_any (x : Rid) (w : World) : Calls Tryz.prog 54 #[.agg #[.int .i64 x.s,.int .i64 x.q,.int .i64 x.i]] w fun e w' => (∃ g c,e = .returned (.slice (some ⟨g,0,none⟩) 3 c) ∧ w.heap.size ≤ g ∧ g < w'.heap.size ∧ Rd w' w'.heap.size (some ⟨g,0,none⟩) 3 (i8s (thrI x))) ∧ Ext w w' := by
 obtain ⟨s,q,i⟩ := x
 obtain ⟨w1,hw1⟩ : ∃ x,x = w.alloc (.cells #[.int .i64 s,.int .i64 q,.int .i64 i] 23) := ⟨_,rfl⟩
 have E1 : Hid (Ext w w1) := hid (by rw [hw1];exact (Ext.refl w).alloc _)
 have BX : Hid (Blk w1 w.heap.size 23 [.int .i64 s,.int .i64 q,.int .i64 i]) := hid (by rw [hw1];exact Blk.fresh' _ _ _ _ _ rfl rfl)
 have HS1 : Hid (w.heap.size ≤ w1.heap.size) := hid E1.out.size
 go_enter Tryz.func54,Tryz.ntmps54
 go_upto_region 1 with fail
 change Code.wp _ _ _ _ (w.alloc (.cells #[.int .i64 s,.int .i64 q,.int .i64 i] 23))
 rw [← hw1]
 clear hw1
 have c0 := BX.out.cell 0
 have c1 := BX.out.cell 1
 have c2 := BX.out.cell 2
 go_wp2_with fail
 go_ret
 exact ⟨⟨w1.heap.size,_,rfl,HS1.out,by simp,Rd.fresh_fr _ _ _ _ _ _ rfl rfl⟩,E1.out.alloc _⟩
end
end Go.Proofs.YtojcmcccahjphaaGreatDoor
