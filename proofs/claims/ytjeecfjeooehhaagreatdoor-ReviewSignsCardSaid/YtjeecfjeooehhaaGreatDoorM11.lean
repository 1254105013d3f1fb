/- The bytes of a review by the reference. Conditions: as for encode. -/
import Derived.Test.YtjeecfjeooehhaaGreatDoorM10
import Derived.Test.YtjeecfjeooehhaaGreatDoorM4
import Derived.Test.YtjeecfjeooehhaaGreatDoorM8
import Derived.Test.YtjeecfjeooehhaaGreatDoorM9
set_option linter.unusedSimpArgs false
set_option linter.unusedVariables false
set_option maxHeartbeats 16000000
set_option maxRecDepth 100000
namespace Go.Proofs.YtjeecfjeooehhaaGreatDoor
open Go.RowKit
open Lib (hid)
attribute [local go_sem ↓] wp_at_zero wp_at_succ
theorem bytes_any (r : Rev) (A : Option Addr) (n c : Nat) (w : World) (hr : RevV w r A n c) (hw : RevW r) : Calls Tryz.prog 35 #[.agg (revC r A n c).toArray] w fun e w' => (∃ A' c',e = .returned (.slice A' (encR r).length c') ∧ w'.ownsRow w.heap.size 5 1 (.slice A' (encR r).length c') (encR r).length (u8s (encR r))) ∧ Ext w w' := by
 obtain ⟨i0,hi,hz0,hz1,hz2⟩ := info_parts winfo_u8
 obtain ⟨i1,hi',hz0',hz1',hz2'⟩ := info_parts winfo_int
 have HR := hid hr
 have HLN := hid hr.len
 have HW := hid hw
 have hn : n ≤ 1000 := by rw [← hr.len];exact hw.many
 have hw3 : ∀ x ∈ [r.shop,r.seq,r.day],-9223372036854775808 ≤ x ∧ x ≤ 9223372036854775807 := fun x hx => by
  simp only [List.mem_cons,List.not_mem_nil,or_false] at hx
  rcases hx with rfl | rfl | rfl
  ·exact hw.shop
  ·exact hw.seq
  ·exact hw.day
 have q1 := encL_le _ hw3 (by simp)
 have q2 := encInt_le9 (wdI r.wd) (by unfold wdI;split <;> decide) (by unfold wdI;split <;> decide)
 have q3 := encL_le _ hw.ops (by rw [opsI_len,HLN.out];omega)
 have q4 : (encL idD [r.mean]).length ≤ 25 := by
  have h := encInt_le9 1 (by decide) (by decide)
  unfold encL idD
  simp only [List.length_append,List.flatMap_cons,List.flatMap_nil,List.length_nil,hr.mean,List.length_cons]
  have : (((0 + 1 : Nat) : Int)) = 1 := rfl
  rw [this];omega
 have q5 : (encB r.sl).length ≤ 9 + r.sl.size := by
  have h := encInt_le9 (r.sl.size : Int) (by omega) (by have := hw.sls;omega)
  unfold encB
  rw [List.length_append,bys_length];omega
 rw [opsI_len,HLN.out] at q3
 simp only [List.length_cons,List.length_nil] at q1
 obtain ⟨e1,he1⟩ : ∃ e,e = encL encInt [r.shop,r.seq,r.day] := ⟨_,rfl⟩
 obtain ⟨e2,he2⟩ : ∃ e,e = encInt (wdI r.wd) := ⟨_,rfl⟩
 obtain ⟨e3,he3⟩ : ∃ e,e = encL encInt (opsI r.ops) := ⟨_,rfl⟩
 obtain ⟨e4,he4⟩ : ∃ e,e = encL idD [r.mean] := ⟨_,rfl⟩
 obtain ⟨e5,he5⟩ : ∃ e,e = encB r.sl := ⟨_,rfl⟩
 have hE : encR r = e1 ++ e2 ++ e3 ++ e4 ++ e5 := by rw [he1,he2,he3,he4,he5];rfl
 rw [← he1] at q1;rw [← he2] at q2;rw [← he3] at q3;rw [← he4] at q4;rw [← he5] at q5
 obtain ⟨k1,hk1⟩ : ∃ k,k = e1.length := ⟨_,rfl⟩
 obtain ⟨k2,hk2⟩ : ∃ k,k = e2.length := ⟨_,rfl⟩
 obtain ⟨k3,hk3⟩ : ∃ k,k = e3.length := ⟨_,rfl⟩
 obtain ⟨k4,hk4⟩ : ∃ k,k = e4.length := ⟨_,rfl⟩
 obtain ⟨k5,hk5⟩ : ∃ k,k = e5.length := ⟨_,rfl⟩
 rw [← hk1] at q1;rw [← hk2] at q2;rw [← hk3] at q3;rw [← hk4] at q4;rw [← hk5] at q5
 have q5' : k5 ≤ 1000000009 := by have := hw.sls;omega
 have q3' : k3 ≤ 27009 := by omega
 have HL : Hid (k1 + k2 + k3 + k4 + k5 = (encR r).length) := hid (by rw [hE];simp only [List.length_append];omega)
 have HU : Hid (u8s e1 ++ u8s e2 ++ u8s e3 ++ u8s e4 ++ u8s e5 = u8s (encR r)) := hid (by rw [hE];simp only [u8s_append])
 have HI1 : Hid (∀ W : World,Calls Tryz.prog 74 #[.slice (some ⟨W.heap.size,0,none⟩) 3 3] (W.alloc (.cells #[.int .i64 r.shop,.int .i64 r.seq,.int .i64 r.day] 3)) fun e w' => (∃ A c,e = .returned (.slice A k1 c) ∧ w'.ownsRow W.heap.size 5 1 (.slice A k1 c) k1 (u8s e1)) ∧ Ext W w') := hid (fun W => by
  have hf := (Blk.fresh W 3 [.int .i64 r.shop,.int .i64 r.seq,.int .i64 r.day]).rd rfl
  have h := rints_any [r.shop,r.seq,r.day] (some ⟨W.heap.size,0,none⟩) 3 3 (W.alloc (.cells #[.int .i64 r.shop,.int .i64 r.seq,.int .i64 r.day] 3)) hf hw3 (by rw [← he1,← hk1];omega) (by decide)
  rw [← he1,← hk1] at h
  refine h.mono ?_
  rintro e w' ⟨⟨A,c,rfl,ho⟩,hB⟩
  exact ⟨⟨A,c,rfl,own_lo ho (by simp)⟩,((Ext.refl W).alloc _).next hB⟩)
 have HI2 : Hid (∀ W : World,Calls Tryz.prog 52 #[.int .i64 (wdI r.wd)] W fun e w' => (∃ A c,e = .returned (.slice A k2 c) ∧ w'.ownsRow W.heap.size 5 1 (.slice A k2 c) k2 (u8s e2)) ∧ Below W.heap.size W w') := hid (fun W => by
  have h := rintL_any (wdI r.wd) W (by unfold wdI;split <;> decide) (by unfold wdI;split <;> decide)
  rw [← he2,← hk2] at h
  exact h)
 have HI3 : Hid (∀ (W : World) (A : Option Addr) (c : Nat),Rd W W.heap.size A (3 * n) ((opsI r.ops).map (Value.int .i64)) → Calls Tryz.prog 74 #[.slice A (3 * n) c] W fun e w' => (∃ A c,e = .returned (.slice A k3 c) ∧ w'.ownsRow W.heap.size 5 1 (.slice A k3 c) k3 (u8s e3)) ∧ Below W.heap.size W w') := hid (fun W A c hA => by
  have h := rints_any (opsI r.ops) A (3 * n) c W hA hw.ops (by rw [← he3,← hk3];omega) (by omega)
  rw [← he3,← hk3] at h
  exact h)
 have HI4 : Hid (∀ (W : World) (o : Obj),o = .cells (u8s r.mean).toArray 26 → Calls Tryz.prog 75 #[.slice (some ⟨W.heap.size,0,none⟩) 1 1] (W.alloc o) fun e w' => (∃ A c,e = .returned (.slice A k4 c) ∧ w'.ownsRow W.heap.size 5 1 (.slice A k4 c) k4 (u8s e4)) ∧ Ext W w') := hid (fun W o ho => by
  have hul : (u8s r.mean).length = 16 := by rw [u8s_length,hr.mean]
  have hA : RdN (W.alloc o) (W.alloc o).heap.size 16 (some ⟨W.heap.size,0,none⟩) 1 (celD [r.mean]) := by
   rw [show celD [r.mean] = u8s r.mean from by simp [celD],World.size_alloc]
   exact RdN.fresh _ _ _ 16 1 ho rfl hul
  have h := rdigests_any [r.mean] (some ⟨W.heap.size,0,none⟩) 1 1 (W.alloc o) hA (fun d hd => by rw [List.mem_singleton] at hd;subst hd;exact ⟨hr.mean,hr.mbyt⟩) rfl (by decide)
  rw [← he4,← hk4] at h
  refine h.mono ?_
  rintro e w' ⟨⟨A,c,rfl,ho⟩,hB⟩
  exact ⟨⟨A,c,rfl,own_lo ho (by simp)⟩,((Ext.refl W).alloc _).next hB⟩)
 have HI5 : Hid (∀ W : World,Calls Tryz.prog 76 #[.string r.sl] W fun e w' => (∃ A c,e = .returned (.slice A k5 c) ∧ w'.ownsRow W.heap.size 5 1 (.slice A k5 c) k5 (u8s e5)) ∧ Below W.heap.size W w') := hid (fun W => by
  have h := rbytes_any r.sl W (by have := hw.sls;omega)
  rw [← he5,← hk5] at h
  exact h)
 have HUL : Hid ((u8s r.mean).length = 16) := hid (by rw [u8s_length,hr.mean])
 have hl16 := HUL.out
 have HWD : Hid (wdI r.wd = if r.wd then 1 else 0) := hid rfl
 clear hr hw hw3 he1 he2 he3 he4 he5 hE hk1 hk2 hk3 hk4 hk5 q3 q5
 go_enter Tryz.func35,Tryz.ntmps35
 go_upto_region 1 with fail
 obtain ⟨w1,hw1⟩ : ∃ x,x = w.alloc (.cells (revC r A n c).toArray 28) := ⟨_,rfl⟩
 change Code.wp _ _ _ _ (w.alloc (.cells (revC r A n c).toArray 28))
 rw [← hw1]
 have E1 : Hid (Ext w w1) := hid (by rw [hw1];exact (Ext.refl w).alloc _)
 have BR : Hid (Blk w1 w.heap.size 28 (revC r A n c)) := hid (by rw [hw1];exact Blk.fresh' _ _ _ _ _ rfl rfl)
 clear hw1
 obtain ⟨c0,c1,c2,-,-⟩ := rev_cell BR.out
 go_upto_region 2 with ((go_at_call 74;(with_reducible refine (HI1.out w1).mono ?_);rintro e w2 ⟨⟨A1,a1,rfl,o1⟩,x1⟩;have O1 := hid o1;have X1 : Hid (Ext w1 w2) := hid x1;clear o1 x1;have c3 : w2.cell? ⟨w.heap.size,3,none⟩ = some (.bool r.wd) := (BR.out.ext X1.out).cell 3))
 clear c0 c1 c2
 go_upto_if 15 with fail
 go_cut [3] from 15 to 21 (fun s wx => ∃ A c,s = .slice A (k1 + k2) c ∧ wx.ownsRow w1.heap.size 5 1 (.slice A (k1 + k2) c) (k1 + k2) (u8s e1 ++ u8s e2) ∧ Ext w1 wx)
 case first =>
  obtain ⟨b,hb⟩ : ∃ b,b = r.wd := ⟨_,rfl⟩
  have HB1 : Hid (b = true → wdI r.wd = 1) := hid (fun h => by rw [HWD.out,← hb,h];rfl)
  have HB0 : Hid (b = false → wdI r.wd = 0) := hid (fun h => by rw [HWD.out,← hb,h];rfl)
  rw [← hb]
  clear c3 hb
  cases b
  ·have HI6 : Hid (∀ W : World,Calls Tryz.prog 52 #[.int .i64 0] W fun e w' => (∃ A c,e = .returned (.slice A k2 c) ∧ w'.ownsRow W.heap.size 5 1 (.slice A k2 c) k2 (u8s e2)) ∧ Below W.heap.size W w') := hid (fun W => by have h := HI2.out W;rw [HB0.out rfl] at h;exact h)
   clear HB0 HB1
   go_wp2_with ((first
    | (go_at_call 52;(with_reducible refine (HI6.out w2).mono ?_);rintro e w3 ⟨⟨A2,a2,rfl,o2⟩,x2⟩;have O2 := hid o2;have X2 : Hid (Ext w1 w3) := hid (X1.out.next x2);have O12 := hid (own_below O1.out x2);clear o2 x2)
    | (at_builtin;refine wpList_app rfl (.tmp 19) (.tmp 20) 23 rfl w1.heap.size 5 i0 (.int .u8 0) 1 1 Tryz.underlying23 hi hz0 hz1 hz2 rfl (by omega) A1 (k1) a1 _ rfl O12.out w3.heap.size A2 k2 a2 _ rfl (RdN.of_Rd (Rd.of_own O2.out)) (u8s_one _) (by simp only [maxLen];omega) (by omega) (X2.out.size) ?_;intro B3 d3 v3 o3 g3;have O3 := hid o3;have X3 : Hid (Ext w1 v3) := hid (below_app X2.out g3 O12.out (Nat.le_refl _) (X2.out.size));clear o3 g3)))
   go_meet
   case rel => exact ⟨B3,d3,rfl,O3.out,X3.out⟩
  ·have HI6 : Hid (∀ W : World,Calls Tryz.prog 52 #[.int .i64 1] W fun e w' => (∃ A c,e = .returned (.slice A k2 c) ∧ w'.ownsRow W.heap.size 5 1 (.slice A k2 c) k2 (u8s e2)) ∧ Below W.heap.size W w') := hid (fun W => by have h := HI2.out W;rw [HB1.out rfl] at h;exact h)
   clear HB0 HB1
   go_wp2_with ((first
    | (go_at_call 52;(with_reducible refine (HI6.out w2).mono ?_);rintro e w3 ⟨⟨A2,a2,rfl,o2⟩,x2⟩;have O2 := hid o2;have X2 : Hid (Ext w1 w3) := hid (X1.out.next x2);have O12 := hid (own_below O1.out x2);clear o2 x2)
    | (at_builtin;refine wpList_app rfl (.tmp 16) (.tmp 17) 23 rfl w1.heap.size 5 i0 (.int .u8 0) 1 1 Tryz.underlying23 hi hz0 hz1 hz2 rfl (by omega) A1 (k1) a1 _ rfl O12.out w3.heap.size A2 k2 a2 _ rfl (RdN.of_Rd (Rd.of_own O2.out)) (u8s_one _) (by simp only [maxLen];omega) (by omega) (X2.out.size) ?_;intro B3 d3 v3 o3 g3;have O3 := hid o3;have X3 : Hid (Ext w1 v3) := hid (below_app X2.out g3 O12.out (Nat.le_refl _) (X2.out.size));clear o3 g3)))
   go_meet
   case rel => exact ⟨B3,d3,rfl,O3.out,X3.out⟩
 case rest =>
  obtain ⟨B3,d3,hs3,ho3,hx3⟩ := hcut
  subst hs3
  obtain ⟨v0,rfl⟩ : ∃ x : World,x = wc := ⟨_,rfl⟩
  have O3 := hid ho3;have X3 := hid hx3
  clear ho3 hx3 c3
  go_upto_region 7 with fail
  go_loopw [5,4] (fun i s4 wr => ∃ (t m : Nat) (A : Option Addr) (c : Nat),t ≤ n ∧ Hid (m = 3 * t) ∧ i = .int .i64 (t : Int) ∧ s4 = .slice A m c ∧ wr.ownsRow v0.heap.size 3 1 (.slice A m c) m ((opsI (r.ops.take t)).map (Value.int .i64)) ∧ Ext v0 wr) (fun i _ _ => n - (intOf i).toNat)
  case atStart => exact ⟨0,0,none,0,by omega,hid rfl,rfl,rfl,World.ownsRow_nil _ _ _ _,Ext.refl _⟩
  case round =>
   obtain ⟨t,m,A5,c5,ht,HM,rfl,rfl,hO,hE⟩ := hrel
   have O5 := hid hO;have EO := hid hE
   clear hO hE
   obtain ⟨wo,rfl⟩ : ∃ x : World,x = wr := ⟨_,rfl⟩
   have c4 : wo.cell? ⟨w.heap.size,4,none⟩ = some (.slice A n c) := (BR.out.ext (X3.out.next EO.out)).cell 4
   by_cases hlt : t < n
   ·obtain ⟨g,p,hA,hg,hcc⟩ := HR.out.row.2 (by omega)
    subst hA
    obtain ⟨⟨s,q,z⟩,hy⟩ : ∃ y,y = r.ops.getD t rid0 := ⟨_,rfl⟩
    have hy2 : r.ops[t]? = some ⟨s,q,z⟩ := by rw [hy];exact getD_of (by rw [HLN.out];exact hlt)
    have HRG : Hid (∀ W,Ext w W → W.rangeAt g (p + t * 3) [.int .i64 s,.int .i64 q,.int .i64 z]) := hid (fun W hW => ids_range (L := r.ops) (x := ⟨s,q,z⟩) (fun j u hu => (hW.cell (p := ⟨g,p + j,none⟩) hg).trans (hcc j u hu)) hy2)
    have HTK : Hid ((opsI (r.ops.take (t + 1))).map (Value.int .i64) = (opsI (r.ops.take t)).map (Value.int .i64) ++ [.int .i64 s,.int .i64 q,.int .i64 z]) := hid (by rw [opsI_snoc hy2,List.map_append];rfl)
    have hm3 : m ≤ 3000 := by have := HM.out;omega
    have hltI : (t : Int) < (n : Int) := by omega
    clear hcc hy hy2
    go_upto_region 9 with fail
    clear c4
    refine wp_region_flowF 20 ?FW9 (fun us => ?_) (by kernel_rfl) (by kernel_rfl) (fun a b => Ext a b) Ext.refl (fun h1 h2 => h1.next h2) (fun i v W => match i with
     | 0 => v = .slice A5 m c5
     | 1 => v = .pointer (some ⟨w.heap.size,4,none⟩)
     | 2 => v = .slice (some ⟨g,p,none⟩) n c
     | 3 => v = .int .i64 (t : Int)
     | 4 => v = .pointer (some ⟨g,p + t * 3,none⟩)
     | 5 => v = .pointer (some ⟨g,p + t * 3,none⟩)
     | 6 => v = .int .i64 s
     | 7 => v = .pointer (some ⟨w.heap.size,4,none⟩)
     | 8 => v = .slice (some ⟨g,p,none⟩) n c
     | 9 => v = .int .i64 (t : Int)
     | 10 => v = .pointer (some ⟨g,p + t * 3,none⟩)
     | 11 => v = .pointer (some ⟨g,p + t * 3 + 1,none⟩)
     | 12 => v = .int .i64 q
     | 13 => v = .pointer (some ⟨w.heap.size,4,none⟩)
     | 14 => v = .slice (some ⟨g,p,none⟩) n c
     | 15 => v = .int .i64 (t : Int)
     | 16 => v = .pointer (some ⟨g,p + t * 3,none⟩)
     | 17 => v = .pointer (some ⟨g,p + t * 3 + 2,none⟩)
     | 18 => v = .int .i64 z
     | 19 => ∃ b,v = .slice (some ⟨b,0,none⟩) 3 3 ∧ RdN W W.heap.size 1 (some ⟨b,0,none⟩) 3 [.int .i64 s,.int .i64 q,.int .i64 z]
     | _ => True) ?_ ?_
    case refine_1 =>
     simp only [List.take_succ_cons,List.take_zero,flowAct,Nat.zero_add,Nat.reduceAdd,Act.put,List.setIfInBounds_toArray,List.set_cons_succ,List.set_cons_zero]
     rfl
    ·simp only [List.take_succ_cons,List.take_zero,flowStepsF]
     refine ⟨?_,?_,?_,?_,?_,?_,?_,?_,?_,?_,?_,?_,?_,?_,?_,?_,?_,?_,?_,?_,trivial⟩
     ·intro us W K hE hd hK
      dsimp only at hK ⊢
      have HK := hid hK;have HE := hid hE
      clear hK hd hE
      go_wp2_with fail
      exact K_at (HK.out (.slice A5 m c5) W (fun _ _ => rfl) (Ext.refl W)) (by kernel_rfl)
     ·intro us W K hE hd hK
      dsimp only at hK ⊢
      have HK := hid hK;have HE := hid hE
      clear hK hd hE
      go_wp2_with fail
      exact K_at (HK.out (.pointer (some ⟨w.heap.size,4,none⟩)) W (fun _ _ => rfl) (Ext.refl W)) (by kernel_rfl)
     ·intro us W K hE hd hK
      have d1 := hd 1 (by kernel_rfl)
      have xk : W.cell? ⟨w.heap.size,4,none⟩ = some (.slice (some ⟨g,p,none⟩) n c) := (BR.out.ext ((X3.out.next EO.out).next (sg_undrew hE))).cell 4
      dsimp only at hK ⊢
      rw [d1] at hK ⊢
      have HK := hid hK;have HE := hid hE
      clear hK hd hE d1
      go_wp2_with fail
      exact K_at (HK.out (.slice (some ⟨g,p,none⟩) n c) W (fun _ _ => rfl) (Ext.refl W)) (by kernel_rfl)
     ·intro us W K hE hd hK
      dsimp only at hK ⊢
      have HK := hid hK;have HE := hid hE
      clear hK hd hE
      go_wp2_with fail
      exact K_at (HK.out (.int .i64 (t : Int)) W (fun _ _ => rfl) (Ext.refl W)) (by kernel_rfl)
     ·intro us W K hE hd hK
      have d2 := hd 2 (by kernel_rfl)
      have d3 := hd 3 (by kernel_rfl)
      dsimp only at hK ⊢
      rw [d2,d3] at hK ⊢
      have HK := hid hK;have HE := hid hE
      clear hK hd hE d2 d3
      go_wp2_with fail
      exact K_at (HK.out (.pointer (some ⟨g,p + t * 3,none⟩)) W (fun _ _ => rfl) (Ext.refl W)) (by kernel_rfl)
     ·intro us W K hE hd hK
      have d4 := hd 4 (by kernel_rfl)
      dsimp only at hK ⊢
      rw [d4] at hK ⊢
      have HK := hid hK;have HE := hid hE
      clear hK hd hE d4
      go_wp2_with fail
      exact K_at (HK.out (.pointer (some ⟨g,p + t * 3,none⟩)) W (fun _ _ => rfl) (Ext.refl W)) (by kernel_rfl)
     ·intro us W K hE hd hK
      have d5 := hd 5 (by kernel_rfl)
      have xk : W.cell? ⟨g,p + t * 3,none⟩ = some (.int .i64 s) := HRG.out W ((E1.out.next (X3.out.next EO.out)).next (sg_undrew hE)) 0 _ rfl
      dsimp only at hK ⊢
      rw [d5] at hK ⊢
      have HK := hid hK;have HE := hid hE
      clear hK hd hE d5
      go_wp2_with fail
      exact K_at (HK.out (.int .i64 s) W (fun _ _ => rfl) (Ext.refl W)) (by kernel_rfl)
     ·intro us W K hE hd hK
      dsimp only at hK ⊢
      have HK := hid hK;have HE := hid hE
      clear hK hd hE
      go_wp2_with fail
      exact K_at (HK.out (.pointer (some ⟨w.heap.size,4,none⟩)) W (fun _ _ => rfl) (Ext.refl W)) (by kernel_rfl)
     ·intro us W K hE hd hK
      have d7 := hd 7 (by kernel_rfl)
      have xk : W.cell? ⟨w.heap.size,4,none⟩ = some (.slice (some ⟨g,p,none⟩) n c) := (BR.out.ext ((X3.out.next EO.out).next (sg_undrew hE))).cell 4
      dsimp only at hK ⊢
      rw [d7] at hK ⊢
      have HK := hid hK;have HE := hid hE
      clear hK hd hE d7
      go_wp2_with fail
      exact K_at (HK.out (.slice (some ⟨g,p,none⟩) n c) W (fun _ _ => rfl) (Ext.refl W)) (by kernel_rfl)
     ·intro us W K hE hd hK
      dsimp only at hK ⊢
      have HK := hid hK;have HE := hid hE
      clear hK hd hE
      go_wp2_with fail
      exact K_at (HK.out (.int .i64 (t : Int)) W (fun _ _ => rfl) (Ext.refl W)) (by kernel_rfl)
     ·intro us W K hE hd hK
      have d8 := hd 8 (by kernel_rfl)
      have d9 := hd 9 (by kernel_rfl)
      dsimp only at hK ⊢
      rw [d8,d9] at hK ⊢
      have HK := hid hK;have HE := hid hE
      clear hK hd hE d8 d9
      go_wp2_with fail
      exact K_at (HK.out (.pointer (some ⟨g,p + t * 3,none⟩)) W (fun _ _ => rfl) (Ext.refl W)) (by kernel_rfl)
     ·intro us W K hE hd hK
      have d10 := hd 10 (by kernel_rfl)
      dsimp only at hK ⊢
      rw [d10] at hK ⊢
      have HK := hid hK;have HE := hid hE
      clear hK hd hE d10
      go_wp2_with fail
      exact K_at (HK.out (.pointer (some ⟨g,p + t * 3 + 1,none⟩)) W (fun _ _ => rfl) (Ext.refl W)) (by kernel_rfl)
     ·intro us W K hE hd hK
      have d11 := hd 11 (by kernel_rfl)
      have xk : W.cell? ⟨g,p + t * 3 + 1,none⟩ = some (.int .i64 q) := HRG.out W ((E1.out.next (X3.out.next EO.out)).next (sg_undrew hE)) 1 _ rfl
      dsimp only at hK ⊢
      rw [d11] at hK ⊢
      have HK := hid hK;have HE := hid hE
      clear hK hd hE d11
      go_wp2_with fail
      exact K_at (HK.out (.int .i64 q) W (fun _ _ => rfl) (Ext.refl W)) (by kernel_rfl)
     ·intro us W K hE hd hK
      dsimp only at hK ⊢
      have HK := hid hK;have HE := hid hE
      clear hK hd hE
      go_wp2_with fail
      exact K_at (HK.out (.pointer (some ⟨w.heap.size,4,none⟩)) W (fun _ _ => rfl) (Ext.refl W)) (by kernel_rfl)
     ·intro us W K hE hd hK
      have d13 := hd 13 (by kernel_rfl)
      have xk : W.cell? ⟨w.heap.size,4,none⟩ = some (.slice (some ⟨g,p,none⟩) n c) := (BR.out.ext ((X3.out.next EO.out).next (sg_undrew hE))).cell 4
      dsimp only at hK ⊢
      rw [d13] at hK ⊢
      have HK := hid hK;have HE := hid hE
      clear hK hd hE d13
      go_wp2_with fail
      exact K_at (HK.out (.slice (some ⟨g,p,none⟩) n c) W (fun _ _ => rfl) (Ext.refl W)) (by kernel_rfl)
     ·intro us W K hE hd hK
      dsimp only at hK ⊢
      have HK := hid hK;have HE := hid hE
      clear hK hd hE
      go_wp2_with fail
      exact K_at (HK.out (.int .i64 (t : Int)) W (fun _ _ => rfl) (Ext.refl W)) (by kernel_rfl)
     ·intro us W K hE hd hK
      have d14 := hd 14 (by kernel_rfl)
      have d15 := hd 15 (by kernel_rfl)
      dsimp only at hK ⊢
      rw [d14,d15] at hK ⊢
      have HK := hid hK;have HE := hid hE
      clear hK hd hE d14 d15
      go_wp2_with fail
      exact K_at (HK.out (.pointer (some ⟨g,p + t * 3,none⟩)) W (fun _ _ => rfl) (Ext.refl W)) (by kernel_rfl)
     ·intro us W K hE hd hK
      have d16 := hd 16 (by kernel_rfl)
      dsimp only at hK ⊢
      rw [d16] at hK ⊢
      have HK := hid hK;have HE := hid hE
      clear hK hd hE d16
      go_wp2_with fail
      exact K_at (HK.out (.pointer (some ⟨g,p + t * 3 + 2,none⟩)) W (fun _ _ => rfl) (Ext.refl W)) (by kernel_rfl)
     ·intro us W K hE hd hK
      have d17 := hd 17 (by kernel_rfl)
      have xk : W.cell? ⟨g,p + t * 3 + 2,none⟩ = some (.int .i64 z) := HRG.out W ((E1.out.next (X3.out.next EO.out)).next (sg_undrew hE)) 2 _ rfl
      dsimp only at hK ⊢
      rw [d17] at hK ⊢
      have HK := hid hK;have HE := hid hE
      clear hK hd hE d17
      go_wp2_with fail
      exact K_at (HK.out (.int .i64 z) W (fun _ _ => rfl) (Ext.refl W)) (by kernel_rfl)
     ·intro us W K hE hd hK
      have d6 := hd 6 (by kernel_rfl)
      have d12 := hd 12 (by kernel_rfl)
      have d18 := hd 18 (by kernel_rfl)
      dsimp only at hK ⊢
      rw [d6,d12,d18] at hK ⊢
      have HK := hid hK;have HE := hid hE
      clear hK hd hE d6 d12 d18
      go_wp2_with fail
      exact K_at (HK.out (.slice (some ⟨W.heap.size,0,none⟩) 3 3) (W.alloc (.cells #[.int .i64 s,.int .i64 q,.int .i64 z] 3)) (fun W2 h2 => ⟨_,rfl,((RdN.fresh (W := W) (e := 3) [.int .i64 s,.int .i64 q,.int .i64 z] _ W.heap.size 1 3 rfl rfl rfl).below h2 (by rw [World.size_alloc];exact Nat.le_refl _)).more (Nat.le_trans (by rw [World.size_alloc];exact Nat.le_refl _) h2.size)⟩) ((Ext.refl W).alloc _)) (by kernel_rfl)
    ·intro us W hE hd
     try dsimp only
     obtain ⟨b9,d19,hr9⟩ := hd 19 (by decide)
     have d0 := hd 0 (by decide)
     simp only [List.drop_succ_cons,List.drop_zero]
     rw [d19,d0]
     have EW := hid (EO.out.next (sg_undrew hE))
     have O6 := hid (own_below O5.out (sg_undrew hE))
     have HR9 := hid hr9
     clear hd hE d19 d0 hr9
     go_wp2_with ((at_builtin;refine wpList_app rfl (.tmp 29) (.tmp 48) 22 rfl v0.heap.size 3 i1 (.int .i64 0) 1 8 Tryz.underlying22 hi' hz0' hz1' hz2' rfl (by omega) A5 m c5 _ rfl O6.out W.heap.size (some ⟨b9,0,none⟩) 3 3 [.int .i64 s,.int .i64 q,.int .i64 z] rfl HR9.out (idC_one ⟨s,q,z⟩) (by simp only [maxLen];omega) (by omega) (by have := EW.out.size;omega) ?_;intro A7 c7 w7 o7 g7;have hb7 := below_app EW.out g7 O6.out (Nat.le_refl _) (by have := EW.out.size;omega)))
     go_roundw
     case rel => exact ⟨t + 1,m + 3,A7,c7,by omega,hid (by have := HM.out;omega),by go_num,rfl,by rw [HTK.out];exact o7,hb7⟩
     case measure => simp [intOf];omega
   ·obtain rfl : t = n := by omega
    have HTF : Hid (opsI (r.ops.take t) = opsI r.ops) := hid (by rw [List.take_of_length_le (by rw [HLN.out];omega)])
    have HM' := hid HM.out
    have hmm := HM.out
    subst hmm
    have HRO : Hid (Rd wo wo.heap.size A5 (3 * t) ((opsI r.ops).map (Value.int .i64))) := hid (by have h := Rd.of_own O5.out;rw [HTF.out] at h;exact h)
    have O30 := hid (own_below O3.out EO.out)
    have X30 := hid (X3.out.next EO.out)
    go_upto_region 11 with ((first
     | (go_at_call 74;(with_reducible refine (HI3.out wo A5 c5 HRO.out).mono ?_);rintro e w8 ⟨⟨A8,a8,rfl,o8⟩,x8⟩;have O8 := hid o8;have X8 : Hid (Ext w1 w8) := hid (X30.out.next x8);have O38 := hid (own_below O30.out x8);clear o8 x8)
     | (at_builtin;refine wpList_app rfl (.tmp 50) (.tmp 52) 23 rfl w1.heap.size 5 i0 (.int .u8 0) 1 1 Tryz.underlying23 hi hz0 hz1 hz2 rfl (by omega) B3 (k1 + k2) d3 _ rfl O38.out w8.heap.size A8 k3 a8 _ rfl (RdN.of_Rd (Rd.of_own O8.out)) (u8s_one _) (by simp only [maxLen];omega) (by omega) (X8.out.size) ?_;intro B9 d9 v9 o9 g9;have O9 := hid o9;have X9 : Hid (Ext w1 v9) := hid (below_app X8.out g9 O38.out (Nat.le_refl _) (X8.out.size));clear o9 g9)))
    have HMR : Hid (v9.rangeAt w.heap.size 5 (u8s r.mean)) := hid (fun j u hu => by
     have h := (BR.out.ext X9.out).cell (5 + j)
     rw [h]
     unfold revC
     have hj := (List.getElem?_eq_some_iff.1 hu).1
     rw [List.append_assoc,List.getElem?_append_right (by simp),List.getElem?_append_left (by simp;omega)]
     simp only [List.length_cons,List.length_nil]
     rw [show 5 + j - (0 + 1 + 1 + 1 + 1 + 1) = j by omega]
     exact hu)
    go_upto_region 12 with ((first
     | (refine wpList_load_mid rfl 26 (.tmp 55) (by rfl) w.heap.size 5 (by rfl) (u8s r.mean) _ HMR.out Tryz.underlying26 rfl (winfo_dig.trans (congrArg some HUL.out.symm)) ?_)
     | (go_at_call 75;(with_reducible refine Calls.mono (HI4.out v9 _ ?_) ?_);(exact congrArg (fun z => Obj.cells z 26) (fold_set _ _ HUL.out));rintro e w10 ⟨⟨A10,a10,rfl,o10⟩,x10⟩;have O10 := hid o10;have X10 : Hid (Ext w1 w10) := hid (X9.out.next x10);have O910 := hid (own_below O9.out x10);clear o10 x10)
     | (at_builtin;refine wpList_app rfl (.tmp 54) (.tmp 58) 23 rfl w1.heap.size 5 i0 (.int .u8 0) 1 1 Tryz.underlying23 hi hz0 hz1 hz2 rfl (by omega) B9 (k1 + k2 + k3) d9 _ rfl O910.out w10.heap.size A10 k4 a10 _ rfl (RdN.of_Rd (Rd.of_own O10.out)) (u8s_one _) (by simp only [maxLen];omega) (by omega) (X10.out.size) ?_;intro B11 d11 v11 o11 g11;have O11 := hid o11;have X11 : Hid (Ext w1 v11) := hid (below_app X10.out g11 O910.out (Nat.le_refl _) (X10.out.size));clear o11 g11)))
    have c21 : v11.cell? ⟨w.heap.size,21,none⟩ = some (.string r.sl) := by
     exact ((BR.out.ext X11.out).cell 21).trans (revC_21 _ _ _ _ HR.out.mean)
    go_wp2_with ((first
     | (go_at_call 76;(with_reducible refine (HI5.out v11).mono ?_);rintro e w12 ⟨⟨A12,a12,rfl,o12⟩,x12⟩;have O12' := hid o12;have X12 : Hid (Ext w1 w12) := hid (X11.out.next x12);have O112 := hid (own_below O11.out x12);clear o12 x12)
     | (at_builtin;refine wpList_app rfl (.tmp 60) (.tmp 63) 23 rfl w1.heap.size 5 i0 (.int .u8 0) 1 1 Tryz.underlying23 hi hz0 hz1 hz2 rfl (by omega) B11 (k1 + k2 + k3 + k4) d11 _ rfl O112.out w12.heap.size A12 k5 a12 _ rfl (RdN.of_Rd (Rd.of_own O12'.out)) (u8s_one _) (by simp only [maxLen];omega) (by omega) (X12.out.size) ?_;intro B13 d13 v13 o13 g13;have O13 := hid o13;have X13 : Hid (Ext w1 v13) := hid (below_app X12.out g13 O112.out (Nat.le_refl _) (X12.out.size));clear o13 g13)))
    go_ret
    have ho := O13.out
    rw [HU.out,HL.out] at ho
    exact ⟨⟨B13,d13,by rw [← HL.out];rfl,own_lo ho E1.out.size⟩,E1.out.next X13.out⟩
end Go.Proofs.YtjeecfjeooehhaaGreatDoor
/- Encode of a review, and whether two reviews are the same. Conditions: as for encode. -/
namespace Go.Proofs.YtjeecfjeooehhaaGreatDoor
open Go.RowKit
open Lib (hid)
attribute [local go_sem ↓] wp_at_zero wp_at_succ
def encE (r : Rev) : Int := if validE r = 0 then (if 1200 < r.sl.size then 4 else 0) else validE r
def encX (r : Rev) : List Int := if encE r = 0 then encR r else []
theorem okB_id {L : List Rid} (h : okB L = true) {x : Rid} (hx : x ∈ L) : idB x = true := by
 obtain ⟨i,hi,rfl⟩ := List.getElem_of_mem hx
 have := List.all_eq_true.1 h i (List.mem_range.2 hi)
 unfold goodB at this
 rw [Bool.and_eq_true] at this
 have h2 := this.1
 rw [List.getD_eq_getElem?_getD,List.getElem?_eq_getElem hi] at h2
 exact h2
theorem validE_zero {r : Rev} (h : validE r = 0) : (0 ≤ r.shop ∧ r.shop ≤ 7 ∧ 1 ≤ r.seq ∧ r.seq ≤ 16 ∧ 1 ≤ r.day ∧ r.day ≤ 1048576) ∧ r.ops.length ≤ 32 ∧ 0 < r.ops.length ∧ okB r.ops = true := by
 unfold validE at h
 split at h
 ·cases h
 ·rename_i h1
  split at h
  ·cases h
  ·split at h
   ·cases h
   ·split at h
    ·rename_i h2 h3 h4
     refine ⟨?_,by omega,by omega,h4⟩
     have h5 : (rnumB r.shop r.seq && winB r.day 1 1048576) = true := by
      cases hb : (rnumB r.shop r.seq && winB r.day 1 1048576) with
      | true => rfl
      | false => exact absurd hb h1
     unfold rnumB winB at h5
     simp only [Bool.and_eq_true,decide_eq_true_eq] at h5
     omega
    ·cases h
theorem revW_of {r : Rev} (h : encE r = 0) : RevW r := by
 unfold encE at h
 split at h
 ·rename_i hv
  split at h
  ·cases h
  ·rename_i hs
   obtain ⟨⟨a1,a2,a3,a4,a5,a6⟩,b1,b2,b3⟩ := validE_zero hv
   refine ⟨⟨by omega,by omega⟩,⟨by omega,by omega⟩,⟨by omega,by omega⟩,fun x hx => ?_,by omega,by omega⟩
   unfold opsI at hx
   obtain ⟨y,hy,hxy⟩ := List.mem_flatMap.1 hx
   have := (idB_iff y).1 (okB_id b3 hy)
   unfold opI at hxy
   simp only [List.mem_cons,List.not_mem_nil,or_false] at hxy
   rcases hxy with rfl | rfl | rfl <;> omega
 ·rename_i hv
  exact absurd h hv
theorem encodeX_any (r : Rev) (A : Option Addr) (n c : Nat) (w : World) (hr : RevV w r A n c) : Calls Tryz.prog 8 #[.agg (revC r A n c).toArray] w fun e w' => (∃ A' c',e = .returned (.tuple #[.slice A' (encX r).length c',.int .i64 (encE r)]) ∧ w'.ownsRow w.heap.size 5 1 (.slice A' (encX r).length c') (encX r).length (u8s (encX r))) ∧ Ext w w' := by
 have HR := hid hr
 have HCK : Hid ((revC r A n c).length = 22) := hid (revC_len _ _ _ _ hr.mean)
 obtain ⟨V,hV⟩ : ∃ v,v = validE r := ⟨_,rfl⟩
 have HVV := hid hV
 clear hr hV
 go_enter Tryz.func8,Tryz.ntmps8
 go_upto_region 1 with fail
 obtain ⟨w1,hw1⟩ : ∃ x,x = w.alloc (.cells (revC r A n c).toArray 28) := ⟨_,rfl⟩
 change Code.wp _ _ _ _ (w.alloc (.cells (revC r A n c).toArray 28))
 rw [← hw1]
 have E1 : Hid (Ext w w1) := hid (by rw [hw1];exact (Ext.refl w).alloc _)
 have BR : Hid (Blk w1 w.heap.size 28 (revC r A n c)) := hid (by rw [hw1];exact Blk.fresh' _ _ _ _ _ rfl rfl)
 have HV1 : Hid (Calls Tryz.prog 23 #[.agg (revC r A n c).toArray] w1 fun e w' => e = .returned (.int .i64 V) ∧ Ext w1 w') := hid (by rw [HVV.out];exact valid_any r A n c w1 (HR.out.ext E1.out))
 clear hw1
 by_cases hv0 : V = 0
 ·subst hv0
  by_cases hs : 1200 < r.sl.size
  ·have HE : Hid (encE r = 4) := hid (by unfold encE;rw [← HVV.out,if_pos rfl,if_pos hs])
   have HX : Hid (encX r = []) := hid (by unfold encX;rw [if_neg (by rw [HE.out];decide)])
   have hs1 : decide (1200 < (r.sl.size : Int)) = true := decide_eq_true (by omega)
   go_wp2_with ((first
  | (refine wpList_load_blk rfl 28 (.tmp 1) rfl w.heap.size (by kernel_rfl) BR.out Tryz.underlying28 rfl (info_rev.trans (congrArg some HCK.out.symm)) ?_)
  | (go_at_call 23;(with_reducible refine (HV1.out).mono ?_);rintro e w2 ⟨rfl,hE2⟩;have X2 : Hid (Ext w w2) := hid (E1.out.next hE2);have BR := hid (BR.out.ext hE2);have VR2 := hid (HR.out.ext X2.out);have cc21 : w2.cell? ⟨w.heap.size,21,none⟩ = some (.string r.sl) := (BR.out.cell 21).trans (revC_21 _ _ _ _ HR.out.mean);clear hE2)
  | (go_at_call 31;(with_reducible refine (encode_any r A n c w2 VR2.out HW.out).mono ?_);rintro e w3 ⟨⟨A3,c3,rfl,ho⟩,hE3⟩)))
   go_ret2
   exact ⟨⟨none,0,by rw [HX.out,HE.out];rfl,by rw [HX.out];exact World.ownsRow_nil _ _ _ _⟩,X2.out⟩
  ·have HE : Hid (encE r = 0) := hid (by unfold encE;rw [← HVV.out,if_pos rfl,if_neg hs])
   have HX : Hid (encX r = encR r) := hid (by unfold encX;rw [if_pos HE.out])
   have HW : Hid (RevW r) := hid (revW_of HE.out)
   have hs1 : decide (1200 < (r.sl.size : Int)) = false := decide_eq_false (by omega)
   go_wp2_with ((first
  | (refine wpList_load_blk rfl 28 (.tmp 1) rfl w.heap.size (by kernel_rfl) BR.out Tryz.underlying28 rfl (info_rev.trans (congrArg some HCK.out.symm)) ?_)
  | (go_at_call 23;(with_reducible refine (HV1.out).mono ?_);rintro e w2 ⟨rfl,hE2⟩;have X2 : Hid (Ext w w2) := hid (E1.out.next hE2);have BR := hid (BR.out.ext hE2);have VR2 := hid (HR.out.ext X2.out);have cc21 : w2.cell? ⟨w.heap.size,21,none⟩ = some (.string r.sl) := (BR.out.cell 21).trans (revC_21 _ _ _ _ HR.out.mean);clear hE2)
  | (go_at_call 31;(with_reducible refine (encode_any r A n c w2 VR2.out HW.out).mono ?_);rintro e w3 ⟨⟨A3,c3,rfl,ho⟩,hE3⟩)))
   go_ret2
   exact ⟨⟨A3,c3,by rw [HX.out,HE.out];rfl,by rw [HX.out];exact own_lo ho X2.out.size⟩,X2.out.next hE3⟩
 ·have HE : Hid (encE r = V) := hid (by unfold encE;rw [← HVV.out,if_neg hv0])
  have HX : Hid (encX r = []) := hid (by unfold encX;rw [if_neg (by rw [HE.out];exact hv0)])
  have hne : (V == 0) = false := by rw [beq_eq_false_iff_ne];exact hv0
  clear hv0
  go_wp2_with ((first
  | (refine wpList_load_blk rfl 28 (.tmp 1) rfl w.heap.size (by kernel_rfl) BR.out Tryz.underlying28 rfl (info_rev.trans (congrArg some HCK.out.symm)) ?_)
  | (go_at_call 23;(with_reducible refine (HV1.out).mono ?_);rintro e w2 ⟨rfl,hE2⟩;have X2 : Hid (Ext w w2) := hid (E1.out.next hE2);have BR := hid (BR.out.ext hE2);have VR2 := hid (HR.out.ext X2.out);have cc21 : w2.cell? ⟨w.heap.size,21,none⟩ = some (.string r.sl) := (BR.out.cell 21).trans (revC_21 _ _ _ _ HR.out.mean);clear hE2)
  | (go_at_call 31;(with_reducible refine (encode_any r A n c w2 VR2.out HW.out).mono ?_);rintro e w3 ⟨⟨A3,c3,rfl,ho⟩,hE3⟩)))
  go_ret2
  exact ⟨⟨none,0,by rw [HX.out,HE.out];rfl,by rw [HX.out];exact World.ownsRow_nil _ _ _ _⟩,X2.out⟩
theorem encR_le {w : World} {A : Option Addr} {n c : Nat} (r : Rev) (hr : RevV w r A n c) (hw : RevW r) : (encR r).length ≤ 1000030000 := by
 have hn : n ≤ 1000 := by rw [← hr.len];exact hw.many
 have q1 := encL_le [r.shop,r.seq,r.day] (fun x hx => by
  simp only [List.mem_cons,List.not_mem_nil,or_false] at hx
  rcases hx with rfl | rfl | rfl
  ·exact hw.shop
  ·exact hw.seq
  ·exact hw.day) (by simp)
 have q2 := encInt_le9 (wdI r.wd) (by unfold wdI;split <;> decide) (by unfold wdI;split <;> decide)
 have q3 := encL_le _ hw.ops (by rw [opsI_len,hr.len];omega)
 have q4 : (encL idD [r.mean]).length ≤ 25 := by
  have h := encInt_le9 1 (by decide) (by decide)
  unfold encL idD
  simp only [List.length_append,List.flatMap_cons,List.flatMap_nil,List.length_nil,hr.mean,List.length_cons]
  have : (((0 + 1 : Nat) : Int)) = 1 := rfl
  rw [this];omega
 have q5 : (encB r.sl).length ≤ 9 + r.sl.size := by
  have h := encInt_le9 (r.sl.size : Int) (by omega) (by have := hw.sls;omega)
  unfold encB
  rw [List.length_append,bys_length];omega
 rw [opsI_len,hr.len] at q3
 simp only [List.length_cons,List.length_nil] at q1
 have := hw.sls
 unfold encR
 simp only [List.length_append]
 omega
theorem rsame_any (r s : Rev) (A B : Option Addr) (n c m d : Nat) (w : World) (hr : RevV w r A n c) (hw : RevW r) (hs : RevV w s B m d) (hx : RevW s) : Calls Tryz.prog 11 #[.agg (revC r A n c).toArray,.agg (revC s B m d).toArray] w fun e w' => e = .returned (.bool (decide (encR r = encR s))) ∧ Ext w w' := by
 have HR := hid hr;have HS := hid hs
 have HW := hid hw;have HX := hid hx
 have HCR : Hid ((revC r A n c).length = 22) := hid (revC_len _ _ _ _ hr.mean)
 have HCS : Hid ((revC s B m d).length = 22) := hid (revC_len _ _ _ _ hs.mean)
 obtain ⟨k1,hk1⟩ : ∃ k,k = (encR r).length := ⟨_,rfl⟩
 obtain ⟨k2,hk2⟩ : ∃ k,k = (encR s).length := ⟨_,rfl⟩
 have HB1 : Hid (∀ W,Ext w W → Calls Tryz.prog 35 #[.agg (revC r A n c).toArray] W fun e w' => (∃ A' c',e = .returned (.slice A' k1 c') ∧ Rd w' w'.heap.size A' k1 (u8s (encR r))) ∧ Ext W w') := hid (fun W hW => (bytes_any r A n c W (hr.ext hW) hw).mono (by
  rintro e w' ⟨⟨A',c',rfl,ho⟩,hE⟩
  rw [← hk1] at ho ⊢
  exact ⟨⟨A',c',rfl,Rd.of_own ho⟩,hE⟩))
 have HB2 : Hid (∀ W,Ext w W → Calls Tryz.prog 35 #[.agg (revC s B m d).toArray] W fun e w' => (∃ A' c',e = .returned (.slice A' k2 c') ∧ Rd w' w'.heap.size A' k2 (u8s (encR s))) ∧ Ext W w') := hid (fun W hW => (bytes_any s B m d W (hs.ext hW) hx).mono (by
  rintro e w' ⟨⟨A',c',rfl,ho⟩,hE⟩
  rw [← hk2] at ho ⊢
  exact ⟨⟨A',c',rfl,Rd.of_own ho⟩,hE⟩))
 have hkb : k1 ≤ 1000030000 := by rw [hk1];exact encR_le r hr hw
 have HKB := hid hkb
 clear hr hw hs hx hk1 hk2 hkb
 go_enter Tryz.func11,Tryz.ntmps11
 go_upto_region 1 with fail
 obtain ⟨w1,hw1⟩ : ∃ x,x = (w.alloc (.cells (revC r A n c).toArray 28)).alloc (.cells (revC s B m d).toArray 28) := ⟨_,rfl⟩
 change Code.wp _ _ _ _ ((w.alloc (.cells (revC r A n c).toArray 28)).alloc (.cells (revC s B m d).toArray 28))
 rw [← hw1]
 have E1 : Hid (Ext w w1) := hid (by rw [hw1];exact ((Ext.refl w).alloc _).alloc _)
 have BR : Hid (Blk w1 w.heap.size 28 (revC r A n c)) := hid (by rw [hw1];exact (Blk.fresh' _ _ _ _ _ rfl rfl).alloc _)
 have BS : Hid (Blk w1 (w.heap.size + 1) 28 (revC s B m d)) := hid (by rw [hw1];exact Blk.fresh' _ _ _ _ _ rfl (by simp))
 clear hw1
 refine wp_region_flowF 5 ?FW1 (fun us => ?_) (by kernel_rfl) (by kernel_rfl) (fun a b => Ext a b) Ext.refl (fun h1 h2 => h1.next h2) (fun i v W => match i with
  | 0 => v = .agg (revC r A n c).toArray
  | 1 => ∃ A3 c3,v = .slice A3 k1 c3 ∧ Rd W W.heap.size A3 k1 (u8s (encR r))
  | 2 => v = .agg (revC s B m d).toArray
  | 3 => ∃ A3 c3,v = .slice A3 k2 c3 ∧ Rd W W.heap.size A3 k2 (u8s (encR s))
  | 4 => v = .bool (decide (encR r = encR s))
  | _ => True) ?_ ?_
 case refine_1 =>
  simp only [List.take_succ_cons,List.take_zero,flowAct,Nat.zero_add,Nat.reduceAdd,Act.put,List.setIfInBounds_toArray,List.set_cons_succ,List.set_cons_zero]
  rfl
 ·simp only [List.take_succ_cons,List.take_zero,flowStepsF]
  refine ⟨?_,?_,?_,?_,?_,trivial⟩
  ·intro us W K hE hd hK
   have BW := hid (BR.out.ext (sg_undrew hE))
   dsimp only at hK ⊢
   have HK := hid hK;have HE := hid hE
   clear hK hd hE
   go_wp2_with ((refine wpList_load_want (by rfl) 28 (.tmp 2) rfl w.heap.size (by kernel_rfl) BW.out Tryz.underlying28 rfl (info_rev.trans (congrArg some HCR.out.symm)) ?_))
   exact K_at (HK.out (.agg (revC r A n c).toArray) W (fun _ _ => rfl) (Ext.refl W)) (by kernel_rfl)
  ·intro us W K hE hd hK
   have d0 := hd 0 (by kernel_rfl)
   have EXW := hid (E1.out.next (sg_undrew hE))
   dsimp only at hK ⊢
   rw [d0] at hK ⊢
   have HK := hid hK;have HE := hid hE
   clear hK hd hE d0
   go_wp2_with ((go_at_call 35;(with_reducible refine (HB1.out W EXW.out).mono ?_);rintro e w7 ⟨⟨A3,c3,rfl,hq3⟩,hB7⟩))
   exact K_at (HK.out (.slice A3 k1 c3) w7 (fun W2 hW2 => ⟨A3,c3,rfl,hq3.ext' hW2⟩) hB7) (by kernel_rfl)
  ·intro us W K hE hd hK
   have BW := hid (BS.out.ext (sg_undrew hE))
   dsimp only at hK ⊢
   have HK := hid hK;have HE := hid hE
   clear hK hd hE
   go_wp2_with ((refine wpList_load_want (by rfl) 28 (.tmp 3) rfl (w.heap.size + 1) (by kernel_rfl) BW.out Tryz.underlying28 rfl (info_rev.trans (congrArg some HCS.out.symm)) ?_))
   exact K_at (HK.out (.agg (revC s B m d).toArray) W (fun _ _ => rfl) (Ext.refl W)) (by kernel_rfl)
  ·intro us W K hE hd hK
   have d2 := hd 2 (by kernel_rfl)
   have EXW := hid (E1.out.next (sg_undrew hE))
   dsimp only at hK ⊢
   rw [d2] at hK ⊢
   have HK := hid hK;have HE := hid hE
   clear hK hd hE d2
   go_wp2_with ((go_at_call 35;(with_reducible refine (HB2.out W EXW.out).mono ?_);rintro e w7 ⟨⟨A3,c3,rfl,hq3⟩,hB7⟩))
   exact K_at (HK.out (.slice A3 k2 c3) w7 (fun W2 hW2 => ⟨A3,c3,rfl,hq3.ext' hW2⟩) hB7) (by kernel_rfl)
  ·intro us W K hE hd hK
   obtain ⟨P1,p1,d1,hq1⟩ := hd 1 (by kernel_rfl)
   obtain ⟨P3,p3,d3,hq3⟩ := hd 3 (by kernel_rfl)
   have HQ1 : Hid (Rd W W.heap.size P1 k1 ((encR r).map (Value.int .u8))) := hid hq1;have HQ3 : Hid (Rd W W.heap.size P3 k2 ((encR s).map (Value.int .u8))) := hid hq3
   clear hq1 hq3
   dsimp only at hK ⊢
   rw [d1,d3] at hK ⊢
   have HK := hid hK;have HE := hid hE
   clear hK hd hE d1 d3
   go_wp2_with ((go_at_call 34;(with_reducible refine (same_any (encR r) (encR s) P1 P3 k1 p1 k2 p3 W HQ1.out HQ3.out (Nat.le_trans HKB.out (by decide))).mono ?_);rintro e w7 ⟨rfl,hB7⟩))
   exact K_at (HK.out (.bool (decide (encR r = encR s))) w7 (fun _ _ => rfl) (Drew.below hB7 _)) (by kernel_rfl)
 ·intro us W hE hd
  try dsimp only
  have d4 := hd 4 (by decide)
  simp only [List.drop_succ_cons,List.drop_zero]
  rw [d4]
  have EW := hid (E1.out.next (sg_undrew hE))
  clear hd hE d4
  go_wp2_with fail
  go_ret
  exact ⟨rfl,EW.out⟩
end Go.Proofs.YtjeecfjeooehhaaGreatDoor
