/- The reference of package patch: valid operations. Conditions: OpV. -/
import Derived.Test.YtojcmcccahjphaaGreatDoorM29
import Derived.Test.YtojcmcccahjphaaGreatDoorM27
set_option linter.unusedSimpArgs false
set_option linter.unusedVariables false
set_option maxHeartbeats 16000000
set_option maxRecDepth 100000
set_option maxRecDepth 100000
set_option maxHeartbeats 16000000
namespace Go.Proofs.YtojcmcccahjphaaGreatDoor
open Go.RowKit
open Lib (hid)
attribute [local go_sem ↓] wp_at_zero wp_at_succ
theorem usesS_few (k : Int) : (usesS k).size ≤ 1000000 := by
 by_cases h : k < 0 ∨ 14 ≤ k
 ·rw [uses_none h];decide
 ·rcases o_cases (k := k) (by omega) (by omega) with h | h | h | h | h | h | h | h | h | h | h | h | h | h <;> (subst h;decide)
theorem rvop_any (x : OpA) (cs : List Value) (w : World) (hx : OpV w x cs) : Calls Tryz.prog 14 #[.agg cs.toArray] w fun e w' => e = .returned (.bool (ropB x)) ∧ Ext w w' := by
 obtain ⟨t,nd,A,n,c,rfl,hS⟩ := hx
 have htn := strs_n hS.txt
 have htf := hS.tfew
 obtain ⟨Y,hY⟩ : ∃ y,y = ropB x := ⟨_,rfl⟩
 rw [← hY]
 obtain ⟨b1,hb1⟩ : ∃ b,b = ropE1 x := ⟨_,rfl⟩
 obtain ⟨b2,hb2⟩ : ∃ b,b = ropE2 x := ⟨_,rfl⟩
 obtain ⟨b3,hb3⟩ : ∃ b,b = ropE3 x := ⟨_,rfl⟩
 obtain ⟨b4,hb4⟩ : ∃ b,b = ropE4 x := ⟨_,rfl⟩
 have HF : Hid (Y = if b1 then false else if b2 then false else if b3 then false else if b4 then false else x.texts.all textB) := hid (by rw [hY,hb1,hb2,hb3,hb4];rfl)
 have HFM : Hid (∀ W,Ext w W → Calls Tryz.prog 35 #[.agg t.toArray] W fun e w' => e = .returned (.bool (formedB x.ty 24)) ∧ Ext W w') := hid (fun W hW => rformed_any x.ty t W (hS.ty.ext hW))
 have HZR : Hid (∀ W,Ext w W → Calls Tryz.prog 36 #[.agg t.toArray] W fun e w' => e = .returned (.bool (zeroB x.ty)) ∧ Ext W w') := hid (fun W hW => rzero_any x.ty t W (hS.ty.ext hW))
 have HND : Hid (∀ W,Ext w W → Calls Tryz.prog 37 #[.agg nd.toArray] W fun e w' => e = .returned (.bool (rnodeB x.node)) ∧ Ext W w') := hid (fun W hW => rvnode_any x.node nd W (hS.nod.ext hW))
 have HEM : Hid (∀ W,Ext w W → Calls Tryz.prog 38 #[.agg nd.toArray] W fun e w' => e = .returned (.bool (emptyB x.node)) ∧ Ext W w') := hid (fun W hW => rempty_any x.node nd W (hS.nod.ext hW))
 have HV1 : Hid (∀ W,Calls Tryz.prog 33 #[.agg #[.int .i64 x.on.s,.int .i64 x.on.q,.int .i64 x.on.i]] W fun e w' => e = .returned (.bool (idB x.on)) ∧ Ext W w') := hid (fun W => validID_any x.on W)
 have HV2 : Hid (∀ W,Calls Tryz.prog 33 #[.agg #[.int .i64 x.to'.s,.int .i64 x.to'.q,.int .i64 x.to'.i]] W fun e w' => e = .returned (.bool (idB x.to')) ∧ Ext W w') := hid (fun W => validID_any x.to' W)
 have HNB : Hid (∀ W,Calls Tryz.prog 34 #[.string x.name] W fun e w' => e = .returned (.bool (nameB x.name)) ∧ W = w') := hid (fun W => rname_any x.name W)
 have HUS : Hid (∀ W,Calls Tryz.prog 31 #[.int .i64 x.k] W fun e w' => e = .returned (.tuple #[.string (usesS x.k),.int .i64 (usesN x.k),.int .i64 (usesM x.k)]) ∧ W = w') := hid (fun W => uses_any x.k W)
 have HHO : Hid (∀ W,Calls Tryz.prog 32 #[.string (usesS x.k),.int .u8 79] W fun e w' => e = .returned (.bool (hasB (usesS x.k) 79)) ∧ W = w') := hid (fun W => has_any (usesS x.k) 79 79 W (by decide) (usesS_few _))
 have HHT : Hid (∀ W,Calls Tryz.prog 32 #[.string (usesS x.k),.int .u8 84] W fun e w' => e = .returned (.bool (hasB (usesS x.k) 84)) ∧ W = w') := hid (fun W => has_any (usesS x.k) 84 84 W (by decide) (usesS_few _))
 have HHA : Hid (∀ W,Calls Tryz.prog 32 #[.string (usesS x.k),.int .u8 65] W fun e w' => e = .returned (.bool (hasB (usesS x.k) 65)) ∧ W = w') := hid (fun W => has_any (usesS x.k) 65 65 W (by decide) (usesS_few _))
 have HHY : Hid (∀ W,Calls Tryz.prog 32 #[.string (usesS x.k),.int .u8 89] W fun e w' => e = .returned (.bool (hasB (usesS x.k) 89)) ∧ W = w') := hid (fun W => has_any (usesS x.k) 89 89 W (by decide) (usesS_few _))
 have HHD : Hid (∀ W,Calls Tryz.prog 32 #[.string (usesS x.k),.int .u8 68] W fun e w' => e = .returned (.bool (hasB (usesS x.k) 68)) ∧ W = w') := hid (fun W => has_any (usesS x.k) 68 68 W (by decide) (usesS_few _))
 have HHX : Hid (∀ W,Calls Tryz.prog 32 #[.string (usesS x.k),.int .u8 88] W fun e w' => e = .returned (.bool (hasB (usesS x.k) 88)) ∧ W = w') := hid (fun W => has_any (usesS x.k) 88 88 W (by decide) (usesS_few _))
 have HTX : Hid (∀ t : Nat,t < n → ∃ (g p : Nat) (y : ByteArray),A = some ⟨g,p,none⟩ ∧ x.texts[t]? = some y ∧ (∀ W,Ext w W → W.cell? ⟨g,p + t,none⟩ = some (.string y))) := hid (fun t ht => by
  obtain ⟨g,p,hA,hg,hcc⟩ := hS.txt.2 (by omega)
  have hy2 : x.texts[t]? = some (x.texts[t]'(by omega)) := List.getElem?_eq_getElem _
  exact ⟨g,p,_,hA,hy2,fun W hW => (hW.cell (p := ⟨g,p + t,none⟩) hg).trans (hcc t _ (by rw [List.getElem?_map,hy2];rfl))⟩)
 obtain ⟨t0,t1,t2,t3,t4,rfl⟩ := list5 t hS.ty.len
 obtain ⟨e0,e1,e2,e3,e4,e5,e6,e7,e8,e9,e10,e11,rfl⟩ := list12 nd hS.nod.len
 obtain ⟨ob,hob⟩ : ∃ z,z = decide (x.on = ⟨0,0,0⟩) := ⟨_,rfl⟩
 obtain ⟨tb,htb⟩ : ∃ z,z = decide (x.to' = ⟨0,0,0⟩) := ⟨_,rfl⟩
 obtain ⟨v1,hv1⟩ : ∃ z,z = idB x.on := ⟨_,rfl⟩
 obtain ⟨v2,hv2⟩ : ∃ z,z = idB x.to' := ⟨_,rfl⟩
 obtain ⟨fb,hfb⟩ : ∃ z,z = formedB x.ty 24 := ⟨_,rfl⟩
 obtain ⟨zb,hzb⟩ : ∃ z,z = zeroB x.ty := ⟨_,rfl⟩
 obtain ⟨nb,hnb⟩ : ∃ z,z = rnodeB x.node := ⟨_,rfl⟩
 obtain ⟨eb,heb⟩ : ∃ z,z = emptyB x.node := ⟨_,rfl⟩
 obtain ⟨ab,hab⟩ : ∃ z,z = nameB x.name := ⟨_,rfl⟩
 obtain ⟨u,hu⟩ : ∃ z,z = usesS x.k := ⟨_,rfl⟩
 obtain ⟨uN,huN⟩ : ∃ z,z = usesN x.k := ⟨_,rfl⟩
 obtain ⟨uM,huM⟩ : ∃ z,z = usesM x.k := ⟨_,rfl⟩
 obtain ⟨hO,hhO⟩ : ∃ z,z = hasB (usesS x.k) 79 := ⟨_,rfl⟩
 obtain ⟨hT,hhT⟩ : ∃ z,z = hasB (usesS x.k) 84 := ⟨_,rfl⟩
 obtain ⟨hA,hhA⟩ : ∃ z,z = hasB (usesS x.k) 65 := ⟨_,rfl⟩
 obtain ⟨hY',hhY⟩ : ∃ z,z = hasB (usesS x.k) 89 := ⟨_,rfl⟩
 obtain ⟨hD,hhD⟩ : ∃ z,z = hasB (usesS x.k) 68 := ⟨_,rfl⟩
 obtain ⟨hX,hhX⟩ : ∃ z,z = hasB (usesS x.k) 88 := ⟨_,rfl⟩
 have HB1 : Hid (b1 = (decide (u.size = 0) || (decide (x.n < 0) || (decide (uN < x.n) || (decide (x.most < 0) || (decide (uM < x.most) || decide (256 < n))))))) := hid (by rw [hb1,hu,huN,huM];unfold ropE1;rw [htn])
 have HB2 : Hid (b2 = ((hO && !v1) || ((!hO && !ob) || ((hT && !v2) || (!hT && !tb))))) := hid (by rw [hb2,hv1,hv2,hob,htb,hhO,hhT];rfl)
 have HB3 : Hid (b3 = ((hA && !ab) || ((!hA && !decide (x.name.toList = [])) || ((hY' && !fb) || (!hY' && !zb))))) := hid (by rw [hb3,hab,hfb,hzb,hhA,hhY];rfl)
 have HB4 : Hid (b4 = ((hD && !nb) || ((!hD && !eb) || (!hX && decide (0 < n))))) := hid (by rw [hb4,hnb,heb,hhD,hhX];unfold ropE4;rw [htn])
 rw [← hfb] at HFM
 rw [← hzb] at HZR
 rw [← hnb] at HND
 rw [← heb] at HEM
 rw [← hv1] at HV1
 rw [← hv2] at HV2
 rw [← hab] at HNB
 rw [← hu,← huN,← huM] at HUS
 rw [← hhO,← hu] at HHO
 rw [← hhT,← hu] at HHT
 rw [← hhA,← hu] at HHA
 rw [← hhY,← hu] at HHY
 rw [← hhD,← hu] at HHD
 rw [← hhX,← hu] at HHX
 have hu0 : ¬ u.size = 0 → ¬ u.toList = [] := fun h h2 => h (by rw [ByteArray.toList_eq] at h2;show u.data.size = 0;rw [← Array.length_toList,h2];rfl)
 have hu1 : u.size = 0 → u = ⟨#[]⟩ := fun h => by
  obtain ⟨⟨l⟩⟩ := u
  have : l.length = 0 := h
  rw [List.length_eq_zero_iff.1 this]
 obtain ⟨k,⟨s,q,i⟩,⟨s2,q2,i2⟩,N,M,nam,ty,node,texts⟩ := x
 dsimp only at *
 have HN : Hid ((!ob) = (true != decide ((⟨s,q,i⟩ : Rid) = ⟨0,0,0⟩))) := hid (by rw [hob];cases (decide ((⟨s,q,i⟩ : Rid) = ⟨0,0,0⟩)) <;> rfl)
 have HN2 : Hid ((!tb) = (true != decide ((⟨s2,q2,i2⟩ : Rid) = ⟨0,0,0⟩))) := hid (by rw [htb];cases (decide ((⟨s2,q2,i2⟩ : Rid) = ⟨0,0,0⟩)) <;> rfl)
 have HLK : Hid (texts.length = n) := hid htn
 have HU01 := hid (And.intro hu0 hu1)
 clear hS htn hb1 hb2 hb3 hb4 hob htb hv1 hv2 hfb hzb hnb heb hab hu huN huM hhO hhT hhA hhY hhD hhX hY hu0 hu1
 show Calls Tryz.prog 14 #[.agg #[.int .i64 k,.int .i64 s,.int .i64 q,.int .i64 i,.int .i64 s2,.int .i64 q2,.int .i64 i2,.int .i64 N,.int .i64 M,.string nam,t0,t1,t2,t3,t4,e0,e1,e2,e3,e4,e5,e6,e7,e8,e9,e10,e11,.slice A n c]] w _
 obtain ⟨w1,hw1⟩ : ∃ x,x = w.alloc (.cells #[.int .i64 k,.int .i64 s,.int .i64 q,.int .i64 i,.int .i64 s2,.int .i64 q2,.int .i64 i2,.int .i64 N,.int .i64 M,.string nam,t0,t1,t2,t3,t4,e0,e1,e2,e3,e4,e5,e6,e7,e8,e9,e10,e11,.slice A n c] 33) := ⟨_,rfl⟩
 have E1 : Hid (Ext w w1) := hid (by rw [hw1];exact (Ext.refl w).alloc _)
 have B1 : Hid (Blk w1 w.heap.size 33 [.int .i64 k,.int .i64 s,.int .i64 q,.int .i64 i,.int .i64 s2,.int .i64 q2,.int .i64 i2,.int .i64 N,.int .i64 M,.string nam,t0,t1,t2,t3,t4,e0,e1,e2,e3,e4,e5,e6,e7,e8,e9,e10,e11,.slice A n c]) := hid (by rw [hw1];exact Blk.fresh' _ _ _ _ _ rfl rfl)
 have HG1 : Hid (w.heap.size < w1.heap.size) := hid (by rw [hw1];show w.heap.size < (w.heap.push _).size;rw [Array.size_push];omega)
 obtain ⟨g,hg⟩ : ∃ g,g = w.heap.size := ⟨_,rfl⟩
 go_enter Tryz.func14,Tryz.ntmps14
 go_upto_region 1 with fail
 change Code.wp _ _ _ _ (w.alloc (.cells #[.int .i64 k,.int .i64 s,.int .i64 q,.int .i64 i,.int .i64 s2,.int .i64 q2,.int .i64 i2,.int .i64 N,.int .i64 M,.string nam,t0,t1,t2,t3,t4,e0,e1,e2,e3,e4,e5,e6,e7,e8,e9,e10,e11,.slice A n c] 33))
 rw [← hw1]
 rw [← hg] at B1 HG1 ⊢
 clear hw1 hg
 have c0 : w1.cell? ⟨g,0,none⟩ = some (.int .i64 k) := B1.out.cell 0
 go_upto_region 2 with ((go_at_call 31;(with_reducible refine (HUS.out w1).mono ?_);rintro e w3 ⟨rfl,rfl⟩))
 clear c0 HUS
 obtain ⟨g2,hg2⟩ : ∃ g,g = w1.heap.size := ⟨_,rfl⟩
 go_upto_region 3 with (((refine wpList_store_fresh rfl 23 (.tmp 6) (.tmp 15) rfl _ w1.heap.size rfl [.int .i64 0,.int .i64 0,.int .i64 0] [.int .i64 0,.int .i64 0,.int .i64 0] 23 (by rfl) (by rfl) rfl info_id rfl (by intro v hv;simp only [List.mem_cons,List.not_mem_nil,or_false] at hv;rcases hv with rfl | rfl | rfl <;> rfl) ?_);intro w2 hw2 hE2 hz2;have E2 : Hid (Ext w1 w2) := hid hE2;have Z2 := hid hw2;clear hw2 hE2 hz2))
 rw [← hg2] at Z2 ⊢
 clear hg2
 have B2 := hid (B1.out.ext E2.out)
 have E2' := hid (E1.out.next E2.out)
 clear B1 E1 HG1 E2
 have HR1 : Hid (∀ W,Ext w2 W → W.rangeAt g 1 [.int .i64 s,.int .i64 q,.int .i64 i]) := hid (fun W hW => range_mid (B2.out.ext hW).range 1 [.int .i64 s,.int .i64 q,.int .i64 i] rfl)
 have HR4 : Hid (∀ W,Ext w2 W → W.rangeAt g 4 [.int .i64 s2,.int .i64 q2,.int .i64 i2]) := hid (fun W hW => range_mid (B2.out.ext hW).range 4 [.int .i64 s2,.int .i64 q2,.int .i64 i2] rfl)
 have HRT : Hid (∀ W,Ext w2 W → W.rangeAt g 10 [t0,t1,t2,t3,t4]) := hid (fun W hW => range_mid (B2.out.ext hW).range 10 [t0,t1,t2,t3,t4] rfl)
 have HRN : Hid (∀ W,Ext w2 W → W.rangeAt g 15 [e0,e1,e2,e3,e4,e5,e6,e7,e8,e9,e10,e11]) := hid (fun W hW => range_mid (B2.out.ext hW).range 15 [e0,e1,e2,e3,e4,e5,e6,e7,e8,e9,e10,e11] rfl)
 have HRZ : Hid (∀ W,Ext w2 W → W.rangeAt g2 0 [.int .i64 0,.int .i64 0,.int .i64 0]) := hid (fun W hW => (Z2.out.ext hW).range)
 have HC : Hid (∀ W,Ext w2 W → W.cell? ⟨g,7,none⟩ = some (.int .i64 N) ∧ W.cell? ⟨g,8,none⟩ = some (.int .i64 M) ∧ W.cell? ⟨g,9,none⟩ = some (.string nam) ∧ W.cell? ⟨g,27,none⟩ = some (.slice A n c)) := hid (fun W hW => ⟨(B2.out.ext hW).cell 7,(B2.out.ext hW).cell 8,(B2.out.ext hW).cell 9,(B2.out.ext hW).cell 27⟩)
 clear B2 Z2
 obtain ⟨c7,c8,c9,c27⟩ := HC.out w2 (Ext.refl _)
 simp only [Act.put]
 go_cut [45] from 16 to 44 (fun s45 wx => s45 = .bool b1 ∧ w2 = wx)
 case first =>
  clear HF HFM HZR HND HEM HV1 HV2 HNB HTX HB2 HB3 HB4 HN HN2 HLK HR1 HR4 HRT HRN HRZ HC HHO HHT HHA HHY HHD HHX
  by_cases hz : u.size = 0
  ·have hzz := HU01.out.2 hz
   subst hzz
   rw [decide_eq_true hz] at HB1
   clear hz HU01
   have HQ : Hid (b1 = true) := hid (by rw [HB1.out];rfl)
   go_wp2_with (fail)
   go_meet
   exact ⟨by rw [HQ.out],rfl⟩
  have hnz : u.toList.isEmpty = false := by
   have h2 := HU01.out.1 hz
   cases h3 : u.toList with
   | nil => exact absurd h3 h2
   | cons a l => rfl
  rw [decide_eq_false hz] at HB1
  clear hz HU01
  rcases Classical.em (N < 0) with h1 | h1
  ·have dZ : decide (N < 0) = true := decide_eq_true h1
   rw [dZ] at HB1
   clear h1
   have HQ : Hid (b1 = true) := hid (by rw [HB1.out];rfl)
   go_wp2_with (fail)
   go_meet
   exact ⟨by rw [HQ.out],rfl⟩
  have dZ : decide (N < 0) = false := decide_eq_false h1
  rw [dZ] at HB1
  clear h1
  rcases Classical.em (uN < N) with h1 | h1
  ·have dZ : decide (uN < N) = true := decide_eq_true h1
   rw [dZ] at HB1
   clear h1
   have HQ : Hid (b1 = true) := hid (by rw [HB1.out];rfl)
   go_wp2_with (fail)
   go_meet
   exact ⟨by rw [HQ.out],rfl⟩
  have dZ : decide (uN < N) = false := decide_eq_false h1
  rw [dZ] at HB1
  clear h1
  rcases Classical.em (M < 0) with h1 | h1
  ·have dZ : decide (M < 0) = true := decide_eq_true h1
   rw [dZ] at HB1
   clear h1
   have HQ : Hid (b1 = true) := hid (by rw [HB1.out];rfl)
   go_wp2_with (fail)
   go_meet
   exact ⟨by rw [HQ.out],rfl⟩
  have dZ : decide (M < 0) = false := decide_eq_false h1
  rw [dZ] at HB1
  clear h1
  rcases Classical.em (uM < M) with h1 | h1
  ·have dZ : decide (uM < M) = true := decide_eq_true h1
   rw [dZ] at HB1
   clear h1
   have HQ : Hid (b1 = true) := hid (by rw [HB1.out];rfl)
   go_wp2_with (fail)
   go_meet
   exact ⟨by rw [HQ.out],rfl⟩
  have dZ : decide (uM < M) = false := decide_eq_false h1
  rw [dZ] at HB1
  clear h1
  rcases Classical.em (256 < n) with h1 | h1
  ·have d1 : decide ((256 : Int) < (n : Int)) = true := decide_eq_true (by omega)
   rw [decide_eq_true h1] at HB1
   clear h1
   have HQ : Hid (b1 = true) := hid (by rw [HB1.out];rfl)
   go_wp2_with (fail)
   go_meet
   exact ⟨by rw [HQ.out],rfl⟩
  have d1 : decide ((256 : Int) < (n : Int)) = false := decide_eq_false (by omega)
  rw [decide_eq_false h1] at HB1
  clear h1
  have HQ : Hid (b1 = false) := hid (by rw [HB1.out];rfl)
  go_wp2_with (fail)
  go_meet
  exact ⟨by rw [HQ.out],rfl⟩
 case rest =>
 obtain ⟨rfl,rfl⟩ := hcut
 clear HB1 HU01
 cases b1
 case true =>
  have HQ : Hid (Y = false) := hid (by rw [HF.out];rfl)
  go_wp2_with fail
  go_ret
  exact ⟨by rw [HQ.out];rfl,E2'.out⟩
 go_upto_region 5 with fail
 clear c7 c8 c9 c27
 go_cut [85] from 46 to 84 (fun s85 wx => s85 = .bool b2 ∧ Ext w2 wx)
 case first =>
  have EX : Hid (Ext w2 w2) := hid (Ext.refl _)
  clear HF HFM HZR HND HEM HNB HTX HB3 HB4 HLK HRT HRN HC
  cases hO
  ·cases ob
   ·have HQ : Hid (b2 = true) := hid (by rw [HB2.out];rfl)
    go_wp2_with (first | (go_at_call 32;(with_reducible refine (HHO.out _).mono ?_);rintro e w6 ⟨rfl,rfl⟩) | (go_at_call 32;(with_reducible refine (HHT.out _).mono ?_);rintro e w6 ⟨rfl,rfl⟩) | ((with_reducible refine wpList_load_row 23 g 1 [.int .i64 s,.int .i64 q,.int .i64 i] (HR1.out _ EX.out) Tryz.underlying23 rfl (info_id.trans rfl) ?_ ?_ ?_);kernel_rfl;rfl) | ((with_reducible refine wpList_load_row 23 g 4 [.int .i64 s2,.int .i64 q2,.int .i64 i2] (HR4.out _ EX.out) Tryz.underlying23 rfl (info_id.trans rfl) ?_ ?_ ?_);kernel_rfl;rfl) | ((with_reducible refine wpList_load_row 23 g2 0 [.int .i64 0,.int .i64 0,.int .i64 0] (HRZ.out _ EX.out) Tryz.underlying23 rfl (info_id.trans rfl) ?_ ?_ ?_);kernel_rfl;rfl) | ((with_reducible refine wpList_idNeq s q i 0 0 0 _ HN.out ?_ ?_ ?_ ?_);kernel_rfl;rfl;rfl) | ((with_reducible refine wpList_idNeq s2 q2 i2 0 0 0 _ HN2.out ?_ ?_ ?_ ?_);kernel_rfl;rfl;rfl) | (go_at_call 33;(with_reducible refine (HV1.out _).mono ?_);rintro e w6 ⟨rfl,hE6⟩;have EX : Hid (Ext w2 w6) := hid (EX.out.next hE6);clear hE6) | (go_at_call 33;(with_reducible refine (HV2.out _).mono ?_);rintro e w6 ⟨rfl,hE6⟩;have EX : Hid (Ext w2 w6) := hid (EX.out.next hE6);clear hE6))
    go_meet
    exact ⟨by rw [HQ.out],EX.out⟩
   ·cases hT
    ·cases tb
     ·have HQ : Hid (b2 = true) := hid (by rw [HB2.out];rfl)
      go_wp2_with (first | (go_at_call 32;(with_reducible refine (HHO.out _).mono ?_);rintro e w6 ⟨rfl,rfl⟩) | (go_at_call 32;(with_reducible refine (HHT.out _).mono ?_);rintro e w6 ⟨rfl,rfl⟩) | ((with_reducible refine wpList_load_row 23 g 1 [.int .i64 s,.int .i64 q,.int .i64 i] (HR1.out _ EX.out) Tryz.underlying23 rfl (info_id.trans rfl) ?_ ?_ ?_);kernel_rfl;rfl) | ((with_reducible refine wpList_load_row 23 g 4 [.int .i64 s2,.int .i64 q2,.int .i64 i2] (HR4.out _ EX.out) Tryz.underlying23 rfl (info_id.trans rfl) ?_ ?_ ?_);kernel_rfl;rfl) | ((with_reducible refine wpList_load_row 23 g2 0 [.int .i64 0,.int .i64 0,.int .i64 0] (HRZ.out _ EX.out) Tryz.underlying23 rfl (info_id.trans rfl) ?_ ?_ ?_);kernel_rfl;rfl) | ((with_reducible refine wpList_idNeq s q i 0 0 0 _ HN.out ?_ ?_ ?_ ?_);kernel_rfl;rfl;rfl) | ((with_reducible refine wpList_idNeq s2 q2 i2 0 0 0 _ HN2.out ?_ ?_ ?_ ?_);kernel_rfl;rfl;rfl) | (go_at_call 33;(with_reducible refine (HV1.out _).mono ?_);rintro e w6 ⟨rfl,hE6⟩;have EX : Hid (Ext w2 w6) := hid (EX.out.next hE6);clear hE6) | (go_at_call 33;(with_reducible refine (HV2.out _).mono ?_);rintro e w6 ⟨rfl,hE6⟩;have EX : Hid (Ext w2 w6) := hid (EX.out.next hE6);clear hE6))
      go_meet
      exact ⟨by rw [HQ.out],EX.out⟩
     ·have HQ : Hid (b2 = false) := hid (by rw [HB2.out];rfl)
      go_wp2_with (first | (go_at_call 32;(with_reducible refine (HHO.out _).mono ?_);rintro e w6 ⟨rfl,rfl⟩) | (go_at_call 32;(with_reducible refine (HHT.out _).mono ?_);rintro e w6 ⟨rfl,rfl⟩) | ((with_reducible refine wpList_load_row 23 g 1 [.int .i64 s,.int .i64 q,.int .i64 i] (HR1.out _ EX.out) Tryz.underlying23 rfl (info_id.trans rfl) ?_ ?_ ?_);kernel_rfl;rfl) | ((with_reducible refine wpList_load_row 23 g 4 [.int .i64 s2,.int .i64 q2,.int .i64 i2] (HR4.out _ EX.out) Tryz.underlying23 rfl (info_id.trans rfl) ?_ ?_ ?_);kernel_rfl;rfl) | ((with_reducible refine wpList_load_row 23 g2 0 [.int .i64 0,.int .i64 0,.int .i64 0] (HRZ.out _ EX.out) Tryz.underlying23 rfl (info_id.trans rfl) ?_ ?_ ?_);kernel_rfl;rfl) | ((with_reducible refine wpList_idNeq s q i 0 0 0 _ HN.out ?_ ?_ ?_ ?_);kernel_rfl;rfl;rfl) | ((with_reducible refine wpList_idNeq s2 q2 i2 0 0 0 _ HN2.out ?_ ?_ ?_ ?_);kernel_rfl;rfl;rfl) | (go_at_call 33;(with_reducible refine (HV1.out _).mono ?_);rintro e w6 ⟨rfl,hE6⟩;have EX : Hid (Ext w2 w6) := hid (EX.out.next hE6);clear hE6) | (go_at_call 33;(with_reducible refine (HV2.out _).mono ?_);rintro e w6 ⟨rfl,hE6⟩;have EX : Hid (Ext w2 w6) := hid (EX.out.next hE6);clear hE6))
      go_meet
      exact ⟨by rw [HQ.out],EX.out⟩
    ·cases v2
     ·have HQ : Hid (b2 = true) := hid (by rw [HB2.out];rfl)
      go_wp2_with (first | (go_at_call 32;(with_reducible refine (HHO.out _).mono ?_);rintro e w6 ⟨rfl,rfl⟩) | (go_at_call 32;(with_reducible refine (HHT.out _).mono ?_);rintro e w6 ⟨rfl,rfl⟩) | ((with_reducible refine wpList_load_row 23 g 1 [.int .i64 s,.int .i64 q,.int .i64 i] (HR1.out _ EX.out) Tryz.underlying23 rfl (info_id.trans rfl) ?_ ?_ ?_);kernel_rfl;rfl) | ((with_reducible refine wpList_load_row 23 g 4 [.int .i64 s2,.int .i64 q2,.int .i64 i2] (HR4.out _ EX.out) Tryz.underlying23 rfl (info_id.trans rfl) ?_ ?_ ?_);kernel_rfl;rfl) | ((with_reducible refine wpList_load_row 23 g2 0 [.int .i64 0,.int .i64 0,.int .i64 0] (HRZ.out _ EX.out) Tryz.underlying23 rfl (info_id.trans rfl) ?_ ?_ ?_);kernel_rfl;rfl) | ((with_reducible refine wpList_idNeq s q i 0 0 0 _ HN.out ?_ ?_ ?_ ?_);kernel_rfl;rfl;rfl) | ((with_reducible refine wpList_idNeq s2 q2 i2 0 0 0 _ HN2.out ?_ ?_ ?_ ?_);kernel_rfl;rfl;rfl) | (go_at_call 33;(with_reducible refine (HV1.out _).mono ?_);rintro e w6 ⟨rfl,hE6⟩;have EX : Hid (Ext w2 w6) := hid (EX.out.next hE6);clear hE6) | (go_at_call 33;(with_reducible refine (HV2.out _).mono ?_);rintro e w6 ⟨rfl,hE6⟩;have EX : Hid (Ext w2 w6) := hid (EX.out.next hE6);clear hE6))
      go_meet
      exact ⟨by rw [HQ.out],EX.out⟩
     ·have HQ : Hid (b2 = false) := hid (by rw [HB2.out];rfl)
      go_wp2_with (first | (go_at_call 32;(with_reducible refine (HHO.out _).mono ?_);rintro e w6 ⟨rfl,rfl⟩) | (go_at_call 32;(with_reducible refine (HHT.out _).mono ?_);rintro e w6 ⟨rfl,rfl⟩) | ((with_reducible refine wpList_load_row 23 g 1 [.int .i64 s,.int .i64 q,.int .i64 i] (HR1.out _ EX.out) Tryz.underlying23 rfl (info_id.trans rfl) ?_ ?_ ?_);kernel_rfl;rfl) | ((with_reducible refine wpList_load_row 23 g 4 [.int .i64 s2,.int .i64 q2,.int .i64 i2] (HR4.out _ EX.out) Tryz.underlying23 rfl (info_id.trans rfl) ?_ ?_ ?_);kernel_rfl;rfl) | ((with_reducible refine wpList_load_row 23 g2 0 [.int .i64 0,.int .i64 0,.int .i64 0] (HRZ.out _ EX.out) Tryz.underlying23 rfl (info_id.trans rfl) ?_ ?_ ?_);kernel_rfl;rfl) | ((with_reducible refine wpList_idNeq s q i 0 0 0 _ HN.out ?_ ?_ ?_ ?_);kernel_rfl;rfl;rfl) | ((with_reducible refine wpList_idNeq s2 q2 i2 0 0 0 _ HN2.out ?_ ?_ ?_ ?_);kernel_rfl;rfl;rfl) | (go_at_call 33;(with_reducible refine (HV1.out _).mono ?_);rintro e w6 ⟨rfl,hE6⟩;have EX : Hid (Ext w2 w6) := hid (EX.out.next hE6);clear hE6) | (go_at_call 33;(with_reducible refine (HV2.out _).mono ?_);rintro e w6 ⟨rfl,hE6⟩;have EX : Hid (Ext w2 w6) := hid (EX.out.next hE6);clear hE6))
      go_meet
      exact ⟨by rw [HQ.out],EX.out⟩
  ·cases v1
   ·have HQ : Hid (b2 = true) := hid (by rw [HB2.out];rfl)
    go_wp2_with (first | (go_at_call 32;(with_reducible refine (HHO.out _).mono ?_);rintro e w6 ⟨rfl,rfl⟩) | (go_at_call 32;(with_reducible refine (HHT.out _).mono ?_);rintro e w6 ⟨rfl,rfl⟩) | ((with_reducible refine wpList_load_row 23 g 1 [.int .i64 s,.int .i64 q,.int .i64 i] (HR1.out _ EX.out) Tryz.underlying23 rfl (info_id.trans rfl) ?_ ?_ ?_);kernel_rfl;rfl) | ((with_reducible refine wpList_load_row 23 g 4 [.int .i64 s2,.int .i64 q2,.int .i64 i2] (HR4.out _ EX.out) Tryz.underlying23 rfl (info_id.trans rfl) ?_ ?_ ?_);kernel_rfl;rfl) | ((with_reducible refine wpList_load_row 23 g2 0 [.int .i64 0,.int .i64 0,.int .i64 0] (HRZ.out _ EX.out) Tryz.underlying23 rfl (info_id.trans rfl) ?_ ?_ ?_);kernel_rfl;rfl) | ((with_reducible refine wpList_idNeq s q i 0 0 0 _ HN.out ?_ ?_ ?_ ?_);kernel_rfl;rfl;rfl) | ((with_reducible refine wpList_idNeq s2 q2 i2 0 0 0 _ HN2.out ?_ ?_ ?_ ?_);kernel_rfl;rfl;rfl) | (go_at_call 33;(with_reducible refine (HV1.out _).mono ?_);rintro e w6 ⟨rfl,hE6⟩;have EX : Hid (Ext w2 w6) := hid (EX.out.next hE6);clear hE6) | (go_at_call 33;(with_reducible refine (HV2.out _).mono ?_);rintro e w6 ⟨rfl,hE6⟩;have EX : Hid (Ext w2 w6) := hid (EX.out.next hE6);clear hE6))
    go_meet
    exact ⟨by rw [HQ.out],EX.out⟩
   ·cases hT
    ·cases tb
     ·have HQ : Hid (b2 = true) := hid (by rw [HB2.out];rfl)
      go_wp2_with (first | (go_at_call 32;(with_reducible refine (HHO.out _).mono ?_);rintro e w6 ⟨rfl,rfl⟩) | (go_at_call 32;(with_reducible refine (HHT.out _).mono ?_);rintro e w6 ⟨rfl,rfl⟩) | ((with_reducible refine wpList_load_row 23 g 1 [.int .i64 s,.int .i64 q,.int .i64 i] (HR1.out _ EX.out) Tryz.underlying23 rfl (info_id.trans rfl) ?_ ?_ ?_);kernel_rfl;rfl) | ((with_reducible refine wpList_load_row 23 g 4 [.int .i64 s2,.int .i64 q2,.int .i64 i2] (HR4.out _ EX.out) Tryz.underlying23 rfl (info_id.trans rfl) ?_ ?_ ?_);kernel_rfl;rfl) | ((with_reducible refine wpList_load_row 23 g2 0 [.int .i64 0,.int .i64 0,.int .i64 0] (HRZ.out _ EX.out) Tryz.underlying23 rfl (info_id.trans rfl) ?_ ?_ ?_);kernel_rfl;rfl) | ((with_reducible refine wpList_idNeq s q i 0 0 0 _ HN.out ?_ ?_ ?_ ?_);kernel_rfl;rfl;rfl) | ((with_reducible refine wpList_idNeq s2 q2 i2 0 0 0 _ HN2.out ?_ ?_ ?_ ?_);kernel_rfl;rfl;rfl) | (go_at_call 33;(with_reducible refine (HV1.out _).mono ?_);rintro e w6 ⟨rfl,hE6⟩;have EX : Hid (Ext w2 w6) := hid (EX.out.next hE6);clear hE6) | (go_at_call 33;(with_reducible refine (HV2.out _).mono ?_);rintro e w6 ⟨rfl,hE6⟩;have EX : Hid (Ext w2 w6) := hid (EX.out.next hE6);clear hE6))
      go_meet
      exact ⟨by rw [HQ.out],EX.out⟩
     ·have HQ : Hid (b2 = false) := hid (by rw [HB2.out];rfl)
      go_wp2_with (first | (go_at_call 32;(with_reducible refine (HHO.out _).mono ?_);rintro e w6 ⟨rfl,rfl⟩) | (go_at_call 32;(with_reducible refine (HHT.out _).mono ?_);rintro e w6 ⟨rfl,rfl⟩) | ((with_reducible refine wpList_load_row 23 g 1 [.int .i64 s,.int .i64 q,.int .i64 i] (HR1.out _ EX.out) Tryz.underlying23 rfl (info_id.trans rfl) ?_ ?_ ?_);kernel_rfl;rfl) | ((with_reducible refine wpList_load_row 23 g 4 [.int .i64 s2,.int .i64 q2,.int .i64 i2] (HR4.out _ EX.out) Tryz.underlying23 rfl (info_id.trans rfl) ?_ ?_ ?_);kernel_rfl;rfl) | ((with_reducible refine wpList_load_row 23 g2 0 [.int .i64 0,.int .i64 0,.int .i64 0] (HRZ.out _ EX.out) Tryz.underlying23 rfl (info_id.trans rfl) ?_ ?_ ?_);kernel_rfl;rfl) | ((with_reducible refine wpList_idNeq s q i 0 0 0 _ HN.out ?_ ?_ ?_ ?_);kernel_rfl;rfl;rfl) | ((with_reducible refine wpList_idNeq s2 q2 i2 0 0 0 _ HN2.out ?_ ?_ ?_ ?_);kernel_rfl;rfl;rfl) | (go_at_call 33;(with_reducible refine (HV1.out _).mono ?_);rintro e w6 ⟨rfl,hE6⟩;have EX : Hid (Ext w2 w6) := hid (EX.out.next hE6);clear hE6) | (go_at_call 33;(with_reducible refine (HV2.out _).mono ?_);rintro e w6 ⟨rfl,hE6⟩;have EX : Hid (Ext w2 w6) := hid (EX.out.next hE6);clear hE6))
      go_meet
      exact ⟨by rw [HQ.out],EX.out⟩
    ·cases v2
     ·have HQ : Hid (b2 = true) := hid (by rw [HB2.out];rfl)
      go_wp2_with (first | (go_at_call 32;(with_reducible refine (HHO.out _).mono ?_);rintro e w6 ⟨rfl,rfl⟩) | (go_at_call 32;(with_reducible refine (HHT.out _).mono ?_);rintro e w6 ⟨rfl,rfl⟩) | ((with_reducible refine wpList_load_row 23 g 1 [.int .i64 s,.int .i64 q,.int .i64 i] (HR1.out _ EX.out) Tryz.underlying23 rfl (info_id.trans rfl) ?_ ?_ ?_);kernel_rfl;rfl) | ((with_reducible refine wpList_load_row 23 g 4 [.int .i64 s2,.int .i64 q2,.int .i64 i2] (HR4.out _ EX.out) Tryz.underlying23 rfl (info_id.trans rfl) ?_ ?_ ?_);kernel_rfl;rfl) | ((with_reducible refine wpList_load_row 23 g2 0 [.int .i64 0,.int .i64 0,.int .i64 0] (HRZ.out _ EX.out) Tryz.underlying23 rfl (info_id.trans rfl) ?_ ?_ ?_);kernel_rfl;rfl) | ((with_reducible refine wpList_idNeq s q i 0 0 0 _ HN.out ?_ ?_ ?_ ?_);kernel_rfl;rfl;rfl) | ((with_reducible refine wpList_idNeq s2 q2 i2 0 0 0 _ HN2.out ?_ ?_ ?_ ?_);kernel_rfl;rfl;rfl) | (go_at_call 33;(with_reducible refine (HV1.out _).mono ?_);rintro e w6 ⟨rfl,hE6⟩;have EX : Hid (Ext w2 w6) := hid (EX.out.next hE6);clear hE6) | (go_at_call 33;(with_reducible refine (HV2.out _).mono ?_);rintro e w6 ⟨rfl,hE6⟩;have EX : Hid (Ext w2 w6) := hid (EX.out.next hE6);clear hE6))
      go_meet
      exact ⟨by rw [HQ.out],EX.out⟩
     ·have HQ : Hid (b2 = false) := hid (by rw [HB2.out];rfl)
      go_wp2_with (first | (go_at_call 32;(with_reducible refine (HHO.out _).mono ?_);rintro e w6 ⟨rfl,rfl⟩) | (go_at_call 32;(with_reducible refine (HHT.out _).mono ?_);rintro e w6 ⟨rfl,rfl⟩) | ((with_reducible refine wpList_load_row 23 g 1 [.int .i64 s,.int .i64 q,.int .i64 i] (HR1.out _ EX.out) Tryz.underlying23 rfl (info_id.trans rfl) ?_ ?_ ?_);kernel_rfl;rfl) | ((with_reducible refine wpList_load_row 23 g 4 [.int .i64 s2,.int .i64 q2,.int .i64 i2] (HR4.out _ EX.out) Tryz.underlying23 rfl (info_id.trans rfl) ?_ ?_ ?_);kernel_rfl;rfl) | ((with_reducible refine wpList_load_row 23 g2 0 [.int .i64 0,.int .i64 0,.int .i64 0] (HRZ.out _ EX.out) Tryz.underlying23 rfl (info_id.trans rfl) ?_ ?_ ?_);kernel_rfl;rfl) | ((with_reducible refine wpList_idNeq s q i 0 0 0 _ HN.out ?_ ?_ ?_ ?_);kernel_rfl;rfl;rfl) | ((with_reducible refine wpList_idNeq s2 q2 i2 0 0 0 _ HN2.out ?_ ?_ ?_ ?_);kernel_rfl;rfl;rfl) | (go_at_call 33;(with_reducible refine (HV1.out _).mono ?_);rintro e w6 ⟨rfl,hE6⟩;have EX : Hid (Ext w2 w6) := hid (EX.out.next hE6);clear hE6) | (go_at_call 33;(with_reducible refine (HV2.out _).mono ?_);rintro e w6 ⟨rfl,hE6⟩;have EX : Hid (Ext w2 w6) := hid (EX.out.next hE6);clear hE6))
      go_meet
      exact ⟨by rw [HQ.out],EX.out⟩
 case rest =>
 obtain ⟨rfl,hE3⟩ := hcut
 obtain ⟨w3,rfl⟩ : ∃ x : World,x = wc := ⟨_,rfl⟩
 have E3 : Hid (Ext w2 w3) := hid hE3
 clear hE3 HB2 HR1 HR4 HRZ HV1 HV2 HN HN2
 cases b2
 case true =>
  have HQ : Hid (Y = false) := hid (by rw [HF.out];rfl)
  go_wp2_with fail
  go_ret
  exact ⟨by rw [HQ.out];rfl,E2'.out.next E3.out⟩
 go_upto_region 7 with fail
 obtain ⟨c7,c8,c9,c27⟩ := HC.out w3 E3.out
 go_cut [124] from 86 to 123 (fun s124 wx => s124 = .bool b3 ∧ Ext w2 wx)
 case first =>
  have EX : Hid (Ext w2 w3) := E3
  clear HF HND HEM HTX HB4 HLK HRN HC c7 c8 c27
  cases hA
  ·rcases Classical.em (nam.toList = []) with hsn | hsn
   ·rw [decide_eq_true hsn] at HB3
    cases hY'
    ·cases zb
     ·have HQ : Hid (b3 = true) := hid (by rw [HB3.out];rfl)
      go_wp2_with (first | (go_at_call 32;(with_reducible refine (HHA.out _).mono ?_);rintro e w6 ⟨rfl,rfl⟩) | (go_at_call 32;(with_reducible refine (HHY.out _).mono ?_);rintro e w6 ⟨rfl,rfl⟩) | (go_at_call 34;(with_reducible refine (HNB.out _).mono ?_);rintro e w6 ⟨rfl,rfl⟩) | ((with_reducible refine wpList_load_row 26 g 10 [t0,t1,t2,t3,t4] (HRT.out _ EX.out) Tryz.underlying26 rfl (ty_info.trans rfl) ?_ ?_ ?_);kernel_rfl;rfl) | (go_at_call 35;(with_reducible refine (HFM.out _ (E2'.out.next EX.out)).mono ?_);rintro e w6 ⟨rfl,hE6⟩;have EX : Hid (Ext w2 w6) := hid (EX.out.next hE6);clear hE6) | (go_at_call 36;(with_reducible refine (HZR.out _ (E2'.out.next EX.out)).mono ?_);rintro e w6 ⟨rfl,hE6⟩;have EX : Hid (Ext w2 w6) := hid (EX.out.next hE6);clear hE6))
      go_meet
      exact ⟨by rw [HQ.out],EX.out⟩
     ·have HQ : Hid (b3 = false) := hid (by rw [HB3.out];rfl)
      go_wp2_with (first | (go_at_call 32;(with_reducible refine (HHA.out _).mono ?_);rintro e w6 ⟨rfl,rfl⟩) | (go_at_call 32;(with_reducible refine (HHY.out _).mono ?_);rintro e w6 ⟨rfl,rfl⟩) | (go_at_call 34;(with_reducible refine (HNB.out _).mono ?_);rintro e w6 ⟨rfl,rfl⟩) | ((with_reducible refine wpList_load_row 26 g 10 [t0,t1,t2,t3,t4] (HRT.out _ EX.out) Tryz.underlying26 rfl (ty_info.trans rfl) ?_ ?_ ?_);kernel_rfl;rfl) | (go_at_call 35;(with_reducible refine (HFM.out _ (E2'.out.next EX.out)).mono ?_);rintro e w6 ⟨rfl,hE6⟩;have EX : Hid (Ext w2 w6) := hid (EX.out.next hE6);clear hE6) | (go_at_call 36;(with_reducible refine (HZR.out _ (E2'.out.next EX.out)).mono ?_);rintro e w6 ⟨rfl,hE6⟩;have EX : Hid (Ext w2 w6) := hid (EX.out.next hE6);clear hE6))
      go_meet
      exact ⟨by rw [HQ.out],EX.out⟩
    ·cases fb
     ·have HQ : Hid (b3 = true) := hid (by rw [HB3.out];rfl)
      go_wp2_with (first | (go_at_call 32;(with_reducible refine (HHA.out _).mono ?_);rintro e w6 ⟨rfl,rfl⟩) | (go_at_call 32;(with_reducible refine (HHY.out _).mono ?_);rintro e w6 ⟨rfl,rfl⟩) | (go_at_call 34;(with_reducible refine (HNB.out _).mono ?_);rintro e w6 ⟨rfl,rfl⟩) | ((with_reducible refine wpList_load_row 26 g 10 [t0,t1,t2,t3,t4] (HRT.out _ EX.out) Tryz.underlying26 rfl (ty_info.trans rfl) ?_ ?_ ?_);kernel_rfl;rfl) | (go_at_call 35;(with_reducible refine (HFM.out _ (E2'.out.next EX.out)).mono ?_);rintro e w6 ⟨rfl,hE6⟩;have EX : Hid (Ext w2 w6) := hid (EX.out.next hE6);clear hE6) | (go_at_call 36;(with_reducible refine (HZR.out _ (E2'.out.next EX.out)).mono ?_);rintro e w6 ⟨rfl,hE6⟩;have EX : Hid (Ext w2 w6) := hid (EX.out.next hE6);clear hE6))
      go_meet
      exact ⟨by rw [HQ.out],EX.out⟩
     ·have HQ : Hid (b3 = false) := hid (by rw [HB3.out];rfl)
      go_wp2_with (first | (go_at_call 32;(with_reducible refine (HHA.out _).mono ?_);rintro e w6 ⟨rfl,rfl⟩) | (go_at_call 32;(with_reducible refine (HHY.out _).mono ?_);rintro e w6 ⟨rfl,rfl⟩) | (go_at_call 34;(with_reducible refine (HNB.out _).mono ?_);rintro e w6 ⟨rfl,rfl⟩) | ((with_reducible refine wpList_load_row 26 g 10 [t0,t1,t2,t3,t4] (HRT.out _ EX.out) Tryz.underlying26 rfl (ty_info.trans rfl) ?_ ?_ ?_);kernel_rfl;rfl) | (go_at_call 35;(with_reducible refine (HFM.out _ (E2'.out.next EX.out)).mono ?_);rintro e w6 ⟨rfl,hE6⟩;have EX : Hid (Ext w2 w6) := hid (EX.out.next hE6);clear hE6) | (go_at_call 36;(with_reducible refine (HZR.out _ (E2'.out.next EX.out)).mono ?_);rintro e w6 ⟨rfl,hE6⟩;have EX : Hid (Ext w2 w6) := hid (EX.out.next hE6);clear hE6))
      go_meet
      exact ⟨by rw [HQ.out],EX.out⟩
   ·rw [decide_eq_false hsn] at HB3
    have HQ : Hid (b3 = true) := hid (by rw [HB3.out];rfl)
    go_wp2_with (first | (go_at_call 32;(with_reducible refine (HHA.out _).mono ?_);rintro e w6 ⟨rfl,rfl⟩) | (go_at_call 32;(with_reducible refine (HHY.out _).mono ?_);rintro e w6 ⟨rfl,rfl⟩) | (go_at_call 34;(with_reducible refine (HNB.out _).mono ?_);rintro e w6 ⟨rfl,rfl⟩) | ((with_reducible refine wpList_load_row 26 g 10 [t0,t1,t2,t3,t4] (HRT.out _ EX.out) Tryz.underlying26 rfl (ty_info.trans rfl) ?_ ?_ ?_);kernel_rfl;rfl) | (go_at_call 35;(with_reducible refine (HFM.out _ (E2'.out.next EX.out)).mono ?_);rintro e w6 ⟨rfl,hE6⟩;have EX : Hid (Ext w2 w6) := hid (EX.out.next hE6);clear hE6) | (go_at_call 36;(with_reducible refine (HZR.out _ (E2'.out.next EX.out)).mono ?_);rintro e w6 ⟨rfl,hE6⟩;have EX : Hid (Ext w2 w6) := hid (EX.out.next hE6);clear hE6))
    go_meet
    exact ⟨by rw [HQ.out],EX.out⟩
  ·cases ab
   ·have HQ : Hid (b3 = true) := hid (by rw [HB3.out];rfl)
    go_wp2_with (first | (go_at_call 32;(with_reducible refine (HHA.out _).mono ?_);rintro e w6 ⟨rfl,rfl⟩) | (go_at_call 32;(with_reducible refine (HHY.out _).mono ?_);rintro e w6 ⟨rfl,rfl⟩) | (go_at_call 34;(with_reducible refine (HNB.out _).mono ?_);rintro e w6 ⟨rfl,rfl⟩) | ((with_reducible refine wpList_load_row 26 g 10 [t0,t1,t2,t3,t4] (HRT.out _ EX.out) Tryz.underlying26 rfl (ty_info.trans rfl) ?_ ?_ ?_);kernel_rfl;rfl) | (go_at_call 35;(with_reducible refine (HFM.out _ (E2'.out.next EX.out)).mono ?_);rintro e w6 ⟨rfl,hE6⟩;have EX : Hid (Ext w2 w6) := hid (EX.out.next hE6);clear hE6) | (go_at_call 36;(with_reducible refine (HZR.out _ (E2'.out.next EX.out)).mono ?_);rintro e w6 ⟨rfl,hE6⟩;have EX : Hid (Ext w2 w6) := hid (EX.out.next hE6);clear hE6))
    go_meet
    exact ⟨by rw [HQ.out],EX.out⟩
   ·cases hY'
    ·cases zb
     ·have HQ : Hid (b3 = true) := hid (by rw [HB3.out];rfl)
      go_wp2_with (first | (go_at_call 32;(with_reducible refine (HHA.out _).mono ?_);rintro e w6 ⟨rfl,rfl⟩) | (go_at_call 32;(with_reducible refine (HHY.out _).mono ?_);rintro e w6 ⟨rfl,rfl⟩) | (go_at_call 34;(with_reducible refine (HNB.out _).mono ?_);rintro e w6 ⟨rfl,rfl⟩) | ((with_reducible refine wpList_load_row 26 g 10 [t0,t1,t2,t3,t4] (HRT.out _ EX.out) Tryz.underlying26 rfl (ty_info.trans rfl) ?_ ?_ ?_);kernel_rfl;rfl) | (go_at_call 35;(with_reducible refine (HFM.out _ (E2'.out.next EX.out)).mono ?_);rintro e w6 ⟨rfl,hE6⟩;have EX : Hid (Ext w2 w6) := hid (EX.out.next hE6);clear hE6) | (go_at_call 36;(with_reducible refine (HZR.out _ (E2'.out.next EX.out)).mono ?_);rintro e w6 ⟨rfl,hE6⟩;have EX : Hid (Ext w2 w6) := hid (EX.out.next hE6);clear hE6))
      go_meet
      exact ⟨by rw [HQ.out],EX.out⟩
     ·have HQ : Hid (b3 = false) := hid (by rw [HB3.out];rfl)
      go_wp2_with (first | (go_at_call 32;(with_reducible refine (HHA.out _).mono ?_);rintro e w6 ⟨rfl,rfl⟩) | (go_at_call 32;(with_reducible refine (HHY.out _).mono ?_);rintro e w6 ⟨rfl,rfl⟩) | (go_at_call 34;(with_reducible refine (HNB.out _).mono ?_);rintro e w6 ⟨rfl,rfl⟩) | ((with_reducible refine wpList_load_row 26 g 10 [t0,t1,t2,t3,t4] (HRT.out _ EX.out) Tryz.underlying26 rfl (ty_info.trans rfl) ?_ ?_ ?_);kernel_rfl;rfl) | (go_at_call 35;(with_reducible refine (HFM.out _ (E2'.out.next EX.out)).mono ?_);rintro e w6 ⟨rfl,hE6⟩;have EX : Hid (Ext w2 w6) := hid (EX.out.next hE6);clear hE6) | (go_at_call 36;(with_reducible refine (HZR.out _ (E2'.out.next EX.out)).mono ?_);rintro e w6 ⟨rfl,hE6⟩;have EX : Hid (Ext w2 w6) := hid (EX.out.next hE6);clear hE6))
      go_meet
      exact ⟨by rw [HQ.out],EX.out⟩
    ·cases fb
     ·have HQ : Hid (b3 = true) := hid (by rw [HB3.out];rfl)
      go_wp2_with (first | (go_at_call 32;(with_reducible refine (HHA.out _).mono ?_);rintro e w6 ⟨rfl,rfl⟩) | (go_at_call 32;(with_reducible refine (HHY.out _).mono ?_);rintro e w6 ⟨rfl,rfl⟩) | (go_at_call 34;(with_reducible refine (HNB.out _).mono ?_);rintro e w6 ⟨rfl,rfl⟩) | ((with_reducible refine wpList_load_row 26 g 10 [t0,t1,t2,t3,t4] (HRT.out _ EX.out) Tryz.underlying26 rfl (ty_info.trans rfl) ?_ ?_ ?_);kernel_rfl;rfl) | (go_at_call 35;(with_reducible refine (HFM.out _ (E2'.out.next EX.out)).mono ?_);rintro e w6 ⟨rfl,hE6⟩;have EX : Hid (Ext w2 w6) := hid (EX.out.next hE6);clear hE6) | (go_at_call 36;(with_reducible refine (HZR.out _ (E2'.out.next EX.out)).mono ?_);rintro e w6 ⟨rfl,hE6⟩;have EX : Hid (Ext w2 w6) := hid (EX.out.next hE6);clear hE6))
      go_meet
      exact ⟨by rw [HQ.out],EX.out⟩
     ·have HQ : Hid (b3 = false) := hid (by rw [HB3.out];rfl)
      go_wp2_with (first | (go_at_call 32;(with_reducible refine (HHA.out _).mono ?_);rintro e w6 ⟨rfl,rfl⟩) | (go_at_call 32;(with_reducible refine (HHY.out _).mono ?_);rintro e w6 ⟨rfl,rfl⟩) | (go_at_call 34;(with_reducible refine (HNB.out _).mono ?_);rintro e w6 ⟨rfl,rfl⟩) | ((with_reducible refine wpList_load_row 26 g 10 [t0,t1,t2,t3,t4] (HRT.out _ EX.out) Tryz.underlying26 rfl (ty_info.trans rfl) ?_ ?_ ?_);kernel_rfl;rfl) | (go_at_call 35;(with_reducible refine (HFM.out _ (E2'.out.next EX.out)).mono ?_);rintro e w6 ⟨rfl,hE6⟩;have EX : Hid (Ext w2 w6) := hid (EX.out.next hE6);clear hE6) | (go_at_call 36;(with_reducible refine (HZR.out _ (E2'.out.next EX.out)).mono ?_);rintro e w6 ⟨rfl,hE6⟩;have EX : Hid (Ext w2 w6) := hid (EX.out.next hE6);clear hE6))
      go_meet
      exact ⟨by rw [HQ.out],EX.out⟩
 case rest =>
 obtain ⟨rfl,hE4⟩ := hcut
 obtain ⟨w4,rfl⟩ : ∃ x : World,x = wc := ⟨_,rfl⟩
 have E4 : Hid (Ext w2 w4) := hid hE4
 clear hE4 HB3 HRT HFM HZR HNB c7 c8 c9 c27 E3
 cases b3
 case true =>
  have HQ : Hid (Y = false) := hid (by rw [HF.out];rfl)
  go_wp2_with fail
  go_ret
  exact ⟨by rw [HQ.out];rfl,E2'.out.next E4.out⟩
 go_upto_region 9 with fail
 have c27 := (HC.out w4 E4.out).2.2.2
 go_cut [154] from 125 to 153 (fun s154 wx => s154 = .bool b4 ∧ Ext w2 wx)
 case first =>
  have EX : Hid (Ext w2 w4) := E4
  clear HF HTX HLK
  cases hD
  ·cases eb
   ·have HQ : Hid (b4 = true) := hid (by rw [HB4.out];rfl)
    go_wp2_with (first | (go_at_call 32;(with_reducible refine (HHD.out _).mono ?_);rintro e w6 ⟨rfl,rfl⟩) | (go_at_call 32;(with_reducible refine (HHX.out _).mono ?_);rintro e w6 ⟨rfl,rfl⟩) | ((with_reducible refine wpList_load_row 30 g 15 [e0,e1,e2,e3,e4,e5,e6,e7,e8,e9,e10,e11] (HRN.out _ EX.out) Tryz.underlying30 rfl (nod_info.trans rfl) ?_ ?_ ?_);kernel_rfl;rfl) | (go_at_call 37;(with_reducible refine (HND.out _ (E2'.out.next EX.out)).mono ?_);rintro e w6 ⟨rfl,hE6⟩;have EX : Hid (Ext w2 w6) := hid (EX.out.next hE6);have c27 := (HC.out w6 EX.out).2.2.2;clear hE6) | (go_at_call 38;(with_reducible refine (HEM.out _ (E2'.out.next EX.out)).mono ?_);rintro e w6 ⟨rfl,hE6⟩;have EX : Hid (Ext w2 w6) := hid (EX.out.next hE6);have c27 := (HC.out w6 EX.out).2.2.2;clear hE6))
    go_meet
    exact ⟨by rw [HQ.out],EX.out⟩
   ·cases hX
    ·rcases Classical.em (0 < n) with h1 | h1
     ·have d1 : decide ((0 : Int) < (n : Int)) = true := decide_eq_true (by omega)
      have d2 : decide (0 < n) = true := decide_eq_true h1
      rw [decide_eq_true h1] at HB4
      clear h1
      have HQ : Hid (b4 = true) := hid (by rw [HB4.out];rfl)
      go_wp2_with (first | (go_at_call 32;(with_reducible refine (HHD.out _).mono ?_);rintro e w6 ⟨rfl,rfl⟩) | (go_at_call 32;(with_reducible refine (HHX.out _).mono ?_);rintro e w6 ⟨rfl,rfl⟩) | ((with_reducible refine wpList_load_row 30 g 15 [e0,e1,e2,e3,e4,e5,e6,e7,e8,e9,e10,e11] (HRN.out _ EX.out) Tryz.underlying30 rfl (nod_info.trans rfl) ?_ ?_ ?_);kernel_rfl;rfl) | (go_at_call 37;(with_reducible refine (HND.out _ (E2'.out.next EX.out)).mono ?_);rintro e w6 ⟨rfl,hE6⟩;have EX : Hid (Ext w2 w6) := hid (EX.out.next hE6);have c27 := (HC.out w6 EX.out).2.2.2;clear hE6) | (go_at_call 38;(with_reducible refine (HEM.out _ (E2'.out.next EX.out)).mono ?_);rintro e w6 ⟨rfl,hE6⟩;have EX : Hid (Ext w2 w6) := hid (EX.out.next hE6);have c27 := (HC.out w6 EX.out).2.2.2;clear hE6))
      go_meet
      exact ⟨by rw [HQ.out],EX.out⟩
     ·have d1 : decide ((0 : Int) < (n : Int)) = false := decide_eq_false (by omega)
      have d2 : decide (0 < n) = false := decide_eq_false h1
      rw [decide_eq_false h1] at HB4
      clear h1
      have HQ : Hid (b4 = false) := hid (by rw [HB4.out];rfl)
      go_wp2_with (first | (go_at_call 32;(with_reducible refine (HHD.out _).mono ?_);rintro e w6 ⟨rfl,rfl⟩) | (go_at_call 32;(with_reducible refine (HHX.out _).mono ?_);rintro e w6 ⟨rfl,rfl⟩) | ((with_reducible refine wpList_load_row 30 g 15 [e0,e1,e2,e3,e4,e5,e6,e7,e8,e9,e10,e11] (HRN.out _ EX.out) Tryz.underlying30 rfl (nod_info.trans rfl) ?_ ?_ ?_);kernel_rfl;rfl) | (go_at_call 37;(with_reducible refine (HND.out _ (E2'.out.next EX.out)).mono ?_);rintro e w6 ⟨rfl,hE6⟩;have EX : Hid (Ext w2 w6) := hid (EX.out.next hE6);have c27 := (HC.out w6 EX.out).2.2.2;clear hE6) | (go_at_call 38;(with_reducible refine (HEM.out _ (E2'.out.next EX.out)).mono ?_);rintro e w6 ⟨rfl,hE6⟩;have EX : Hid (Ext w2 w6) := hid (EX.out.next hE6);have c27 := (HC.out w6 EX.out).2.2.2;clear hE6))
      go_meet
      exact ⟨by rw [HQ.out],EX.out⟩
    ·have HQ : Hid (b4 = false) := hid (by rw [HB4.out];rfl)
     go_wp2_with (first | (go_at_call 32;(with_reducible refine (HHD.out _).mono ?_);rintro e w6 ⟨rfl,rfl⟩) | (go_at_call 32;(with_reducible refine (HHX.out _).mono ?_);rintro e w6 ⟨rfl,rfl⟩) | ((with_reducible refine wpList_load_row 30 g 15 [e0,e1,e2,e3,e4,e5,e6,e7,e8,e9,e10,e11] (HRN.out _ EX.out) Tryz.underlying30 rfl (nod_info.trans rfl) ?_ ?_ ?_);kernel_rfl;rfl) | (go_at_call 37;(with_reducible refine (HND.out _ (E2'.out.next EX.out)).mono ?_);rintro e w6 ⟨rfl,hE6⟩;have EX : Hid (Ext w2 w6) := hid (EX.out.next hE6);have c27 := (HC.out w6 EX.out).2.2.2;clear hE6) | (go_at_call 38;(with_reducible refine (HEM.out _ (E2'.out.next EX.out)).mono ?_);rintro e w6 ⟨rfl,hE6⟩;have EX : Hid (Ext w2 w6) := hid (EX.out.next hE6);have c27 := (HC.out w6 EX.out).2.2.2;clear hE6))
     go_meet
     exact ⟨by rw [HQ.out],EX.out⟩
  ·cases nb
   ·have HQ : Hid (b4 = true) := hid (by rw [HB4.out];rfl)
    go_wp2_with (first | (go_at_call 32;(with_reducible refine (HHD.out _).mono ?_);rintro e w6 ⟨rfl,rfl⟩) | (go_at_call 32;(with_reducible refine (HHX.out _).mono ?_);rintro e w6 ⟨rfl,rfl⟩) | ((with_reducible refine wpList_load_row 30 g 15 [e0,e1,e2,e3,e4,e5,e6,e7,e8,e9,e10,e11] (HRN.out _ EX.out) Tryz.underlying30 rfl (nod_info.trans rfl) ?_ ?_ ?_);kernel_rfl;rfl) | (go_at_call 37;(with_reducible refine (HND.out _ (E2'.out.next EX.out)).mono ?_);rintro e w6 ⟨rfl,hE6⟩;have EX : Hid (Ext w2 w6) := hid (EX.out.next hE6);have c27 := (HC.out w6 EX.out).2.2.2;clear hE6) | (go_at_call 38;(with_reducible refine (HEM.out _ (E2'.out.next EX.out)).mono ?_);rintro e w6 ⟨rfl,hE6⟩;have EX : Hid (Ext w2 w6) := hid (EX.out.next hE6);have c27 := (HC.out w6 EX.out).2.2.2;clear hE6))
    go_meet
    exact ⟨by rw [HQ.out],EX.out⟩
   ·cases hX
    ·rcases Classical.em (0 < n) with h1 | h1
     ·have d1 : decide ((0 : Int) < (n : Int)) = true := decide_eq_true (by omega)
      have d2 : decide (0 < n) = true := decide_eq_true h1
      rw [decide_eq_true h1] at HB4
      clear h1
      have HQ : Hid (b4 = true) := hid (by rw [HB4.out];rfl)
      go_wp2_with (first | (go_at_call 32;(with_reducible refine (HHD.out _).mono ?_);rintro e w6 ⟨rfl,rfl⟩) | (go_at_call 32;(with_reducible refine (HHX.out _).mono ?_);rintro e w6 ⟨rfl,rfl⟩) | ((with_reducible refine wpList_load_row 30 g 15 [e0,e1,e2,e3,e4,e5,e6,e7,e8,e9,e10,e11] (HRN.out _ EX.out) Tryz.underlying30 rfl (nod_info.trans rfl) ?_ ?_ ?_);kernel_rfl;rfl) | (go_at_call 37;(with_reducible refine (HND.out _ (E2'.out.next EX.out)).mono ?_);rintro e w6 ⟨rfl,hE6⟩;have EX : Hid (Ext w2 w6) := hid (EX.out.next hE6);have c27 := (HC.out w6 EX.out).2.2.2;clear hE6) | (go_at_call 38;(with_reducible refine (HEM.out _ (E2'.out.next EX.out)).mono ?_);rintro e w6 ⟨rfl,hE6⟩;have EX : Hid (Ext w2 w6) := hid (EX.out.next hE6);have c27 := (HC.out w6 EX.out).2.2.2;clear hE6))
      go_meet
      exact ⟨by rw [HQ.out],EX.out⟩
     ·have d1 : decide ((0 : Int) < (n : Int)) = false := decide_eq_false (by omega)
      have d2 : decide (0 < n) = false := decide_eq_false h1
      rw [decide_eq_false h1] at HB4
      clear h1
      have HQ : Hid (b4 = false) := hid (by rw [HB4.out];rfl)
      go_wp2_with (first | (go_at_call 32;(with_reducible refine (HHD.out _).mono ?_);rintro e w6 ⟨rfl,rfl⟩) | (go_at_call 32;(with_reducible refine (HHX.out _).mono ?_);rintro e w6 ⟨rfl,rfl⟩) | ((with_reducible refine wpList_load_row 30 g 15 [e0,e1,e2,e3,e4,e5,e6,e7,e8,e9,e10,e11] (HRN.out _ EX.out) Tryz.underlying30 rfl (nod_info.trans rfl) ?_ ?_ ?_);kernel_rfl;rfl) | (go_at_call 37;(with_reducible refine (HND.out _ (E2'.out.next EX.out)).mono ?_);rintro e w6 ⟨rfl,hE6⟩;have EX : Hid (Ext w2 w6) := hid (EX.out.next hE6);have c27 := (HC.out w6 EX.out).2.2.2;clear hE6) | (go_at_call 38;(with_reducible refine (HEM.out _ (E2'.out.next EX.out)).mono ?_);rintro e w6 ⟨rfl,hE6⟩;have EX : Hid (Ext w2 w6) := hid (EX.out.next hE6);have c27 := (HC.out w6 EX.out).2.2.2;clear hE6))
      go_meet
      exact ⟨by rw [HQ.out],EX.out⟩
    ·have HQ : Hid (b4 = false) := hid (by rw [HB4.out];rfl)
     go_wp2_with (first | (go_at_call 32;(with_reducible refine (HHD.out _).mono ?_);rintro e w6 ⟨rfl,rfl⟩) | (go_at_call 32;(with_reducible refine (HHX.out _).mono ?_);rintro e w6 ⟨rfl,rfl⟩) | ((with_reducible refine wpList_load_row 30 g 15 [e0,e1,e2,e3,e4,e5,e6,e7,e8,e9,e10,e11] (HRN.out _ EX.out) Tryz.underlying30 rfl (nod_info.trans rfl) ?_ ?_ ?_);kernel_rfl;rfl) | (go_at_call 37;(with_reducible refine (HND.out _ (E2'.out.next EX.out)).mono ?_);rintro e w6 ⟨rfl,hE6⟩;have EX : Hid (Ext w2 w6) := hid (EX.out.next hE6);have c27 := (HC.out w6 EX.out).2.2.2;clear hE6) | (go_at_call 38;(with_reducible refine (HEM.out _ (E2'.out.next EX.out)).mono ?_);rintro e w6 ⟨rfl,hE6⟩;have EX : Hid (Ext w2 w6) := hid (EX.out.next hE6);have c27 := (HC.out w6 EX.out).2.2.2;clear hE6))
     go_meet
     exact ⟨by rw [HQ.out],EX.out⟩
 case rest =>
 obtain ⟨rfl,hE5⟩ := hcut
 obtain ⟨w5,rfl⟩ : ∃ x : World,x = wc := ⟨_,rfl⟩
 have E5 : Hid (Ext w2 w5) := hid hE5
 clear hE5 HB4 HRN HND HEM c27 E4
 cases b4
 case true =>
  have HQ : Hid (Y = false) := hid (by rw [HF.out];rfl)
  go_wp2_with fail
  go_ret
  exact ⟨by rw [HQ.out];rfl,E2'.out.next E5.out⟩
 have HG : Hid (Y = texts.all textB) := hid (by rw [HF.out];rfl)
 clear HF
 have c27 := (HC.out w5 E5.out).2.2.2
 go_wp2_with fail
 go_loopw [7] (fun i7 wr => ∃ t : Nat,t ≤ n ∧ i7 = .int .i64 (t : Int) ∧ Hid (∀ (j : Nat) (y : ByteArray),j < t → texts[j]? = some y → textB y = true) ∧ w5 = wr) (fun i7 _ => n - (intOf i7).toNat)
 case atStart => exact ⟨0,Nat.zero_le _,rfl,hid (fun j y h => absurd h (Nat.not_lt_zero _)),rfl⟩
 case round =>
  obtain ⟨t,ht,rfl,HALL,rfl⟩ := hrel
  by_cases hlt : t < n
  ·obtain ⟨gk,p,y,rfl,hy2,hrg⟩ := HTX.out t hlt
   have cy := hrg w5 (E2'.out.next E5.out)
   have HY2 := hid hy2
   clear hrg hy2
   by_cases hl : 256 < y.size
   ·have hi1 : (256 : Int) < (y.size : Int) := by omega
    have d1 : decide ((256 : Int) < (y.size : Int)) = true := decide_eq_true hi1
    have d2 : decide (256 < y.size) = true := decide_eq_true hl
    have HQ : Hid (Y = false) := hid (by rw [HG.out];exact all_notG textB texts t _ HY2.out (by unfold textB;rw [d2];rfl))
    go_wp2_with fail
    go_ret
    exact ⟨by rw [HQ.out];rfl,E2'.out.next E5.out⟩
   ·have hi1 : ¬ (256 : Int) < (y.size : Int) := by omega
    have d1 : decide ((256 : Int) < (y.size : Int)) = false := decide_eq_false hi1
    have d2 : decide (256 < y.size) = false := decide_eq_false hl
    have HTB : Hid (textB y = true) := hid (by unfold textB;rw [d2];rfl)
    go_wp2_with fail
    go_roundw
    case rel => exact ⟨t + 1,by omega,by go_num,hid (fun j y' hj hy => by
     rcases Nat.lt_or_ge j t with h | h
     ·exact HALL.out j y' h hy
     ·obtain rfl : j = t := by omega
      rw [HY2.out] at hy
      rw [← Option.some.inj hy]
      exact HTB.out),trivial⟩
    case measure => simp [intOf];omega
  ·obtain rfl : t = n := by omega
   have HQ : Hid (Y = true) := hid (by rw [HG.out];exact all_uptoG textB texts (fun j y hy => HALL.out j y (by have h1 := (List.getElem?_eq_some_iff.1 hy).1;rw [HLK.out] at h1;exact h1) hy))
   go_wp2_with fail
   go_ret
   exact ⟨by rw [HQ.out];rfl,E2'.out.next E5.out⟩
end Go.Proofs.YtojcmcccahjphaaGreatDoor
