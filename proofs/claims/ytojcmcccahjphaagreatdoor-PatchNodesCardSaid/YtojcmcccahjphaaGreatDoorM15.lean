/- The reference of package patch: the bytes of types and nodes. Conditions: TyV, NodV; 64-bit numbers. -/
import Derived.Test.YtojcmcccahjphaaGreatDoorM9
import Derived.Test.YtojcmcccahjphaaGreatDoorM14
import Derived.Test.YtojcmcccahjphaaGreatDoorM4
set_option linter.unusedSimpArgs false
set_option linter.unusedVariables false
set_option maxHeartbeats 16000000
set_option maxRecDepth 100000
set_option maxRecDepth 100000
set_option maxHeartbeats 16000000
namespace Go.Proofs.YtojcmcccahjphaaGreatDoor
open Go.RowKit
open Lib (hid)
attribute [local go_sem ↓] wp_at_zero wp_at_succ
theorem rthree_any (x : Rid) (w : World) : Calls Tryz.prog 62 #[.agg #[.int .i64 x.s,.int .i64 x.q,.int .i64 x.i]] w fun e w' => (∃ g c,e = .returned (.slice (some ⟨g,0,none⟩) 3 c) ∧ w.heap.size ≤ g ∧ g < w'.heap.size ∧ Rd w' w'.heap.size (some ⟨g,0,none⟩) 3 (i8s (thrI x))) ∧ Ext w w' := by
 obtain ⟨s,q,i⟩ := x
 obtain ⟨w1,hw1⟩ : ∃ x,x = w.alloc (.cells #[.int .i64 s,.int .i64 q,.int .i64 i] 23) := ⟨_,rfl⟩
 have E1 : Hid (Ext w w1) := hid (by rw [hw1];exact (Ext.refl w).alloc _)
 have BX : Hid (Blk w1 w.heap.size 23 [.int .i64 s,.int .i64 q,.int .i64 i]) := hid (by rw [hw1];exact Blk.fresh' _ _ _ _ _ rfl rfl)
 have HS1 : Hid (w.heap.size ≤ w1.heap.size) := hid E1.out.size
 go_enter Tryz.func62,Tryz.ntmps62
 go_upto_region 1 with fail
 change Code.wp _ _ _ _ (w.alloc (.cells #[.int .i64 s,.int .i64 q,.int .i64 i] 23))
 rw [← hw1]
 clear hw1
 have c0 := BX.out.cell 0
 have c1 := BX.out.cell 1
 have c2 := BX.out.cell 2
 go_wp2_with fail
 go_ret
 exact ⟨⟨w1.heap.size,_,rfl,HS1.out,by simp,Rd.fresh_fr _ _ _ _ _ _ rfl rfl⟩,E1.out.alloc _⟩
theorem ints5 (l : List Int) (n : Nat) (hn : l.length = n) (hwf : ∀ x ∈ l,-9223372036854775808 ≤ x ∧ x ≤ 9223372036854775807) (e : List Int) (he : e = encL encInt l) (k : Nat) (hk : k = e.length) (hcat : k ≤ 100000000000) (cs : Array Value) (hcs : cs = (i8s l).toArray) (h64 : n ≤ 1000000) (h0 : 0 < n) (W : World) :
  Calls Tryz.prog 60 #[.slice (some ⟨W.heap.size,0,none⟩) n n] (W.alloc (.cells cs 3)) fun e' w' => (∃ A c,e' = .returned (.slice A k c) ∧ w'.ownsRow W.heap.size 5 1 (.slice A k c) k (u8s e)) ∧ Ext W w' := by
 subst hcs
 have hf : Rd (W.alloc (.cells (i8s l).toArray 3)) (W.alloc (.cells (i8s l).toArray 3)).heap.size (some ⟨W.heap.size,0,none⟩) n (i8s l) := (Blk.fresh W 3 (i8s l)).rd (by simp [i8s,hn])
 have h := rints_any l (some ⟨W.heap.size,0,none⟩) n n (W.alloc (.cells (i8s l).toArray 3)) hf hwf (by rw [← he,← hk];exact hcat) (by omega)
 rw [← he,← hk] at h
 refine h.mono ?_
 rintro e' w' ⟨⟨A,c,rfl,ho⟩,hB⟩
 exact ⟨⟨A,c,rfl,own_lo ho (by simp)⟩,((Ext.refl W).alloc _).next hB⟩
theorem rtype_any : ∀ (t : List TyN) (cs : List Value) (w : World),TyV w t cs → TyW t → (encT t).length ≤ 1000000000 → Calls Tryz.prog 64 #[.agg cs.toArray] w fun e w' => (∃ A c,e = .returned (.slice A (encT t).length c) ∧ w'.ownsRow w.heap.size 5 1 (.slice A (encT t).length c) (encT t).length (u8s (encT t))) ∧ Ext w w' := by
 intro t
 induction t with
 | nil => exact fun cs w ht => ht.elim
 | cons x r ih =>
  intro cs w ht hw hlen
  obtain ⟨i0,hi,hz0,hz1,hz2⟩ := info_parts winfo_u8
  have hty := ht
  obtain ⟨A,n,c,rfl,hnc,hc,hn⟩ := ht.head
  obtain ⟨e1,he1⟩ : ∃ e,e = encL encInt (tyI x r) := ⟨_,rfl⟩
  obtain ⟨e2,he2⟩ : ∃ e,e = encT r := ⟨_,rfl⟩
  have hE : encT (x :: r) = e1 ++ e2 := by rw [he1,he2];rfl
  obtain ⟨k1,hk1⟩ : ∃ k,k = e1.length := ⟨_,rfl⟩
  obtain ⟨k2,hk2⟩ : ∃ k,k = e2.length := ⟨_,rfl⟩
  rw [hE] at hlen ⊢
  rw [List.length_append,← hk1,← hk2] at hlen
  have q1 : k1 ≤ 1000000000 := by omega
  have q2 : k2 ≤ 1000000000 := by omega
  have hti : tyI x r = [x.k,x.d.s,x.d.q,x.d.i,(n : Int)] := by
   unfold tyI
   rcases hn with ⟨rfl,rfl⟩ | ⟨rfl,hr⟩
   ·rfl
   ·rw [if_neg hr];rfl
  have HI1 : Hid (∀ W : World,Calls Tryz.prog 60 #[.slice (some ⟨W.heap.size,0,none⟩) 5 5] (W.alloc (.cells #[.int .i64 x.k,.int .i64 x.d.s,.int .i64 x.d.q,.int .i64 x.d.i,.int .i64 (n : Int)] 3)) fun e w' => (∃ A c,e = .returned (.slice A k1 c) ∧ w'.ownsRow W.heap.size 5 1 (.slice A k1 c) k1 (u8s e1)) ∧ Ext W w') := hid (fun W => ints5 (tyI x r) 5 rfl (tyI_i64 hw) e1 he1 k1 hk1 (by omega) _ (by rw [hti];rfl) (by decide) (by decide) W)
  have HK : Hid (n = 1 → ∃ (b o : Nat) (q0 q1 q2 q3 q4 : Value),A = some ⟨b,o,none⟩ ∧ (∀ W,Ext w W → W.rangeAt b o [q0,q1,q2,q3,q4]) ∧ (∀ W,Ext w W → Calls Tryz.prog 64 #[.agg #[q0,q1,q2,q3,q4]] W fun e w' => (∃ A c,e = .returned (.slice A k2 c) ∧ w'.ownsRow W.heap.size 5 1 (.slice A k2 c) k2 (u8s e2)) ∧ Ext W w')) := hid (fun h1 => by
   subst h1
   cases r with
   | nil => obtain ⟨A',c',h,_⟩ := hty;simp [tyC] at h
   | cons y r =>
    obtain ⟨A',c',ds,h,_,_,h4,h5⟩ := hty
    obtain ⟨rfl,rfl⟩ : A' = A ∧ c' = c := by simp [tyC] at h;exact ⟨h.1.symm,h.2.symm⟩
    obtain ⟨b,o,hA,hb,hrg⟩ := h4.2 (by decide)
    obtain ⟨q0,q1,q2,q3,q4,rfl⟩ := list5 ds h5.len
    refine ⟨b,o,q0,q1,q2,q3,q4,hA,fun W hW j u hu => (hW.cell (p := ⟨b,o + j,none⟩) hb).trans (hrg j u hu),fun W hW => ?_⟩
    have h := ih [q0,q1,q2,q3,q4] W (h5.ext hW) (fun z hz => hw z (List.mem_cons_of_mem _ hz)) (by rw [← he2,← hk2];omega)
    rw [← he2,← hk2] at h
    exact h)
  have HN : Hid (n = 0 ∧ e2 = [] ∨ n = 1) := hid (by
   rcases hn with ⟨h,h2⟩ | ⟨h,_⟩
   ·exact Or.inl ⟨h,by rw [he2,h2];rfl⟩
   ·exact Or.inr h)
  have HL : Hid (k1 + k2 = (e1 ++ e2).length) := hid (by rw [List.length_append];omega)
  have HU : Hid (u8s e1 ++ u8s e2 = u8s (e1 ++ e2)) := hid (by simp only [u8s_append])
  have HK2 : Hid (k2 = e2.length) := hid hk2
  obtain ⟨k,s,q,i⟩ := x
  unfold tyC
  dsimp only at HI1 ⊢
  rw [← HU.out,← HL.out]
  clear ht hty ih hw he1 he2 hE hk1 hk2 hti hn hlen hnc
  have hn1 : n ≤ 1 := by rcases HN.out with ⟨h,_⟩ | h <;> omega
  obtain ⟨w1,hw1⟩ : ∃ x,x = w.alloc (.cells #[.int .i64 k,.int .i64 s,.int .i64 q,.int .i64 i,.slice A n c] 26) := ⟨_,rfl⟩
  have E1 : Hid (Ext w w1) := hid (by rw [hw1];exact (Ext.refl w).alloc _)
  have B1 : Hid (Blk w1 w.heap.size 26 [.int .i64 k,.int .i64 s,.int .i64 q,.int .i64 i,.slice A n c]) := hid (by rw [hw1];exact Blk.fresh' _ _ _ _ _ rfl rfl)
  go_enter Tryz.func64,Tryz.ntmps64
  go_upto_region 1 with fail
  change Code.wp _ _ _ _ (w.alloc (.cells #[.int .i64 k,.int .i64 s,.int .i64 q,.int .i64 i,.slice A n c] 26))
  rw [← hw1]
  clear hw1
  obtain ⟨c0,c1,c2,c3,c4⟩ := ty_cell B1.out
  go_upto_region 2 with ((go_at_call 60;(with_reducible refine (HI1.out w1).mono ?_);rintro e w2 ⟨⟨A1,a1,rfl,o1⟩,x1⟩;have O1 := hid o1;have X1 : Hid (Ext w1 w2) := hid x1;clear o1 x1))
  clear c0 c1 c2 c3 c4 HI1
  go_wp2_with fail
  go_loopw [4,3] (fun i s3 wr => ∃ (t m : Nat) (A : Option Addr) (c : Nat) (U : List Value),t ≤ n ∧ i = .int .i64 (t : Int) ∧ s3 = .slice A m c ∧ Hid ((t = 0 → m = k1 ∧ U = u8s e1) ∧ (t = 1 → m = k1 + k2 ∧ U = u8s e1 ++ u8s e2)) ∧ wr.ownsRow w1.heap.size 5 1 (.slice A m c) m U ∧ Ext w1 wr) (fun i _ _ => n - (intOf i).toNat)
  case atStart => exact ⟨0,k1,A1,a1,_,Nat.zero_le _,rfl,rfl,hid ⟨fun _ => ⟨rfl,rfl⟩,fun h => absurd h (by decide)⟩,O1.out,X1.out⟩
  case round =>
   obtain ⟨t,m,A5,c5,U,ht,rfl,rfl,HM,hO,hE⟩ := hrel
   have O5 := hid hO;have EO := hid hE
   clear hO hE
   obtain ⟨wo,rfl⟩ : ∃ x : World,x = wr := ⟨_,rfl⟩
   have c4 : wo.cell? ⟨w.heap.size,4,none⟩ = some (.slice A n c) := (B1.out.ext EO.out).cell 4
   by_cases hlt : t < n
   ·obtain rfl : n = 1 := by omega
    obtain rfl : t = 0 := by omega
    obtain ⟨rfl,rfl⟩ := HM.out.1 rfl
    obtain ⟨b,o,q0,q1',q2',q3,q4,rfl,hrg,hcl⟩ := HK.out rfl
    have HRG := hid (hrg wo (E1.out.next EO.out))
    have HCL := hid (hcl wo (E1.out.next EO.out))
    clear hrg hcl HK
    go_wp2_with ((first
     | ((with_reducible refine wpList_load_row 26 b o [q0,q1',q2',q3,q4] HRG.out Tryz.underlying26 rfl (ty_info.trans rfl) ?_ ?_ ?_);kernel_rfl;rfl)
     | (go_at_call 64;(with_reducible refine HCL.out.mono ?_);rintro e w6 ⟨⟨A6,a6,rfl,o6⟩,x6⟩;have O6 := hid o6;have X6 : Hid (Ext w1 w6) := hid (EO.out.next x6);have O56 := hid (own_below O5.out x6);clear o6 x6)
     | (at_builtin;refine wpList_app rfl (.tmp 28) (.tmp 34) 49 rfl w1.heap.size 5 i0 (.int .u8 0) 1 1 Tryz.underlying49 hi hz0 hz1 hz2 rfl (by omega) A5 (m) c5 _ rfl O56.out w6.heap.size A6 k2 a6 _ rfl (RdN.of_Rd (Rd.of_own O6.out)) (u8s_one _) (by simp only [maxLen];omega) (by omega) (X6.out.size) ?_;intro B7 d7 v7 o7 g7;have O7 := hid o7;have X7 : Hid (Ext w1 v7) := hid (below_app X6.out g7 O56.out (Nat.le_refl _) (X6.out.size));clear o7 g7)))
    exact ⟨⟨_,_,_,_,_,_,_,_,_,_,_,_,_,_,_,_,_,⟨1,m + k2,B7,d7,_,Nat.le_refl _,by go_num,rfl,hid ⟨fun h => absurd h (by decide),fun _ => ⟨rfl,rfl⟩⟩,O7.out,X7.out⟩,rfl⟩,by simp [intOf]⟩
   ·obtain rfl : t = n := by omega
    have HEND : Hid (m = k1 + k2 ∧ U = u8s e1 ++ u8s e2) := hid (by
     rcases HN.out with ⟨h,h2⟩ | h
     ·obtain ⟨h3,h4⟩ := HM.out.1 h
      have h5 := HK2.out
      rw [h2] at h5
      exact ⟨by rw [h3,h5];rfl,by rw [h4,h2];simp [u8s]⟩
     ·exact HM.out.2 h)
    obtain ⟨hm,hU⟩ := HEND.out
    subst hm
    subst hU
    clear HM HEND
    go_wp2_with fail
    go_ret
    exact ⟨⟨A5,c5,rfl,own_lo O5.out E1.out.size⟩,E1.out.next EO.out⟩
theorem rnodeb_any (x : NodA) (cs : List Value) (w : World) (hx : NodV w x cs) (hw : NodW x) (hlen : (encN x).length ≤ 1000000000) : Calls Tryz.prog 65 #[.agg cs.toArray] w fun e w' => (∃ A c,e = .returned (.slice A (encN x).length c) ∧ w'.ownsRow w.heap.size 5 1 (.slice A (encN x).length c) (encN x).length (u8s (encN x))) ∧ Ext w w' := by
 obtain ⟨i0,hi,hz0,hz1,hz2⟩ := info_parts winfo_u8
 obtain ⟨i1,hi',hz0',hz1',hz2'⟩ := info_parts winfo_int
 obtain ⟨t,A,n,c,B,m,d,rfl,hS⟩ := hx
 have hkn := idsC_n hS.kids
 have hmn := strs_n hS.nms
 have hnf := hS.kfew
 have hmf := hS.nfew
 obtain ⟨e1,he1⟩ : ∃ e,e = encL encInt (nodN x) := ⟨_,rfl⟩
 obtain ⟨e2,he2⟩ : ∃ e,e = encT x.ty := ⟨_,rfl⟩
 obtain ⟨e3,he3⟩ : ∃ e,e = encL encInt (opsI x.kids) := ⟨_,rfl⟩
 obtain ⟨e4,he4⟩ : ∃ e,e = encL encB x.names := ⟨_,rfl⟩
 have hE : encN x = e1 ++ e2 ++ e3 ++ e4 := by rw [he1,he2,he3,he4];rfl
 obtain ⟨k1,hk1⟩ : ∃ k,k = e1.length := ⟨_,rfl⟩
 obtain ⟨k2,hk2⟩ : ∃ k,k = e2.length := ⟨_,rfl⟩
 obtain ⟨k3,hk3⟩ : ∃ k,k = e3.length := ⟨_,rfl⟩
 obtain ⟨k4,hk4⟩ : ∃ k,k = e4.length := ⟨_,rfl⟩
 have HL : Hid (k1 + k2 + k3 + k4 = (encN x).length) := hid (by rw [hE];simp only [List.length_append];omega)
 have HU : Hid (u8s e1 ++ u8s e2 ++ u8s e3 ++ u8s e4 = u8s (encN x)) := hid (by rw [hE];simp only [u8s_append])
 have hq := HL.out
 have q1 : k1 ≤ 1000000000 := by omega
 have q2 : k2 ≤ 1000000000 := by omega
 have q3 : k3 ≤ 1000000000 := by omega
 have q4 : k4 ≤ 1000000000 := by omega
 have q5 : k1 + k2 ≤ 1000000000 := by omega
 have q6 : k1 + k2 + k3 ≤ 1000000000 := by omega
 clear hq
 have HI1 : Hid (∀ W : World,Calls Tryz.prog 60 #[.slice (some ⟨W.heap.size,0,none⟩) 5 5] (W.alloc (.cells #[.int .i64 x.k,.int .i64 x.n,.int .i64 x.ref.s,.int .i64 x.ref.q,.int .i64 x.ref.i] 3)) fun e w' => (∃ A c,e = .returned (.slice A k1 c) ∧ w'.ownsRow W.heap.size 5 1 (.slice A k1 c) k1 (u8s e1)) ∧ Ext W w') := hid (fun W => ints5 (nodN x) 5 rfl (nodN_i64 hw) e1 he1 k1 hk1 (by omega) _ rfl (by decide) (by decide) W)
 have HI2 : Hid (∀ W,Ext w W → Calls Tryz.prog 64 #[.agg t.toArray] W fun e w' => (∃ A c,e = .returned (.slice A k2 c) ∧ w'.ownsRow W.heap.size 5 1 (.slice A k2 c) k2 (u8s e2)) ∧ Ext W w') := hid (fun W hW => by
  have h := rtype_any x.ty t W (hS.ty.ext hW) hw.ty (by rw [← he2,← hk2];omega)
  rw [← he2,← hk2] at h
  exact h)
 have HI3 : Hid (∀ (W : World) (A : Option Addr) (c : Nat),Rd W W.heap.size A (3 * n) ((opsI x.kids).map (Value.int .i64)) → Calls Tryz.prog 60 #[.slice A (3 * n) c] W fun e w' => (∃ A c,e = .returned (.slice A k3 c) ∧ w'.ownsRow W.heap.size 5 1 (.slice A k3 c) k3 (u8s e3)) ∧ Below W.heap.size W w') := hid (fun W A c hA => by
  have h := rints_any (opsI x.kids) A (3 * n) c W hA (kids_i64 hw.kids) (by rw [← he3,← hk3];omega) (by omega)
  rw [← he3,← hk3] at h
  exact h)
 have HI4 : Hid (∀ W,Ext w W → Calls Tryz.prog 66 #[.slice B m d] W fun e w' => (∃ A c,e = .returned (.slice A k4 c) ∧ w'.ownsRow W.heap.size 5 1 (.slice A k4 c) k4 (u8s e4)) ∧ Below W.heap.size W w') := hid (fun W hW => by
  have h := rstrings_any x.names B m d W (hS.ext hW).nms (fun y hy => Nat.le_trans (hw.names y hy) (by decide)) (by rw [← he4,← hk4];omega) (by omega)
  rw [← he4,← hk4] at h
  exact h)
 have HLN : Hid (x.kids.length = n) := hid hkn
 have HKD : Hid (∀ t : Nat,t < n → ∃ (g p : Nat) (y : Rid),A = some ⟨g,p,none⟩ ∧ x.kids[t]? = some y ∧ (∀ W,Ext w W → W.rangeAt g (p + t * 3) [.int .i64 y.s,.int .i64 y.q,.int .i64 y.i])) := hid (fun t ht => by
  obtain ⟨g,p,hA,hg,hcc⟩ := hS.kids.2 (by omega)
  have hy2 : x.kids[t]? = some (x.kids.getD t rid0) := getD_of (by omega)
  exact ⟨g,p,_,hA,hy2,fun W hW => ids_range (L := x.kids) (fun j u hu => (hW.cell (p := ⟨g,p + j,none⟩) hg).trans (hcc j u hu)) hy2⟩)
 obtain ⟨t0,t1,t2,t3,t4,rfl⟩ := list5 t hS.ty.len
 rw [← HU.out,← HL.out]
 clear hkn hmn hS hw hE he1 he2 he3 he4 hk1 hk2 hk3 hk4 hlen HU HL
 obtain ⟨k,N,⟨s,q,i⟩,ty,kids,names⟩ := x
 dsimp only at HI1 HI3 HLN HKD
 show Calls Tryz.prog 65 #[.agg #[.int .i64 k,.int .i64 N,.int .i64 s,.int .i64 q,.int .i64 i,t0,t1,t2,t3,t4,.slice A n c,.slice B m d]] w _
 obtain ⟨w1,hw1⟩ : ∃ x,x = w.alloc (.cells #[.int .i64 k,.int .i64 N,.int .i64 s,.int .i64 q,.int .i64 i,t0,t1,t2,t3,t4,.slice A n c,.slice B m d] 30) := ⟨_,rfl⟩
 have E1 : Hid (Ext w w1) := hid (by rw [hw1];exact (Ext.refl w).alloc _)
 have B1 : Hid (Blk w1 w.heap.size 30 [.int .i64 k,.int .i64 N,.int .i64 s,.int .i64 q,.int .i64 i,t0,t1,t2,t3,t4,.slice A n c,.slice B m d]) := hid (by rw [hw1];exact Blk.fresh' _ _ _ _ _ rfl rfl)
 go_enter Tryz.func65,Tryz.ntmps65
 go_upto_region 1 with fail
 change Code.wp _ _ _ _ (w.alloc (.cells #[.int .i64 k,.int .i64 N,.int .i64 s,.int .i64 q,.int .i64 i,t0,t1,t2,t3,t4,.slice A n c,.slice B m d] 30))
 rw [← hw1]
 clear hw1
 have c0 := B1.out.cell 0
 have c1 := B1.out.cell 1
 have c2 := B1.out.cell 2
 have c3 := B1.out.cell 3
 have c4 := B1.out.cell 4
 go_upto_region 2 with ((go_at_call 60;(with_reducible refine (HI1.out w1).mono ?_);rintro e w2 ⟨⟨A1,a1,rfl,o1⟩,x1⟩;have O1 := hid o1;have X1 : Hid (Ext w1 w2) := hid x1;clear o1 x1))
 clear c0 c1 c2 c3 c4 HI1
 have HRT := hid (range_mid (B1.out.ext X1.out).range 5 [t0,t1,t2,t3,t4] rfl)
 have HTC := hid (HI2.out w2 (E1.out.next X1.out))
 go_upto_region 3 with ((first
  | ((with_reducible refine wpList_load_row 26 w.heap.size 5 [t0,t1,t2,t3,t4] HRT.out Tryz.underlying26 rfl (ty_info.trans rfl) ?_ ?_ ?_);kernel_rfl;rfl)
  | (go_at_call 64;(with_reducible refine HTC.out.mono ?_);rintro e w3 ⟨⟨A2,a2,rfl,o2⟩,x2⟩;have O2 := hid o2;have X2 : Hid (Ext w1 w3) := hid (X1.out.next x2);have O12 := hid (own_below O1.out x2);clear o2 x2)
  | (at_builtin;refine wpList_app rfl (.tmp 21) (.tmp 24) 49 rfl w1.heap.size 5 i0 (.int .u8 0) 1 1 Tryz.underlying49 hi hz0 hz1 hz2 rfl (by omega) A1 (k1) a1 _ rfl O12.out w3.heap.size A2 k2 a2 _ rfl (RdN.of_Rd (Rd.of_own O2.out)) (u8s_one _) (by simp only [maxLen];omega) (by omega) (X2.out.size) ?_;intro B3 d3 v3 o3 g3;have O3 := hid o3;have X3 : Hid (Ext w1 v3) := hid (below_app X2.out g3 O12.out (Nat.le_refl _) (X2.out.size));clear o3 g3)))
 clear HTC HRT HI2 O1 O2 O12 X1 X2
 go_wp2_with fail
 obtain ⟨v0,rfl⟩ : ∃ x : World,x = v3 := ⟨_,rfl⟩
 go_loopw [5,4] (fun i s4 wr => ∃ (t m : Nat) (A : Option Addr) (c : Nat),t ≤ n ∧ Hid (m = 3 * t) ∧ i = .int .i64 (t : Int) ∧ s4 = .slice A m c ∧ wr.ownsRow v0.heap.size 3 1 (.slice A m c) m ((opsI (kids.take t)).map (Value.int .i64)) ∧ Ext v0 wr) (fun i _ _ => n - (intOf i).toNat)
 case atStart => exact ⟨0,0,none,0,by omega,hid rfl,rfl,rfl,World.ownsRow_nil _ _ _ _,Ext.refl _⟩
 case round =>
  obtain ⟨t,mm,A5,c5,ht,HM,rfl,rfl,hO,hE⟩ := hrel
  have O5 := hid hO;have EO := hid hE
  clear hO hE
  obtain ⟨wo,rfl⟩ : ∃ x : World,x = wr := ⟨_,rfl⟩
  have X30 := hid (X3.out.next EO.out)
  have c10 : wo.cell? ⟨w.heap.size,10,none⟩ = some (.slice A n c) := (B1.out.ext X30.out).cell 10
  by_cases hlt : t < n
  ·obtain ⟨g,p,⟨ys,yq,yi⟩,rfl,hy2,hrg⟩ := HKD.out t hlt
   have HRG := hid (hrg wo (E1.out.next X30.out))
   have HTK : Hid ((opsI (kids.take (t + 1))).map (Value.int .i64) = (opsI (kids.take t)).map (Value.int .i64) ++ i8s (thrI ⟨ys,yq,yi⟩)) := hid (by rw [opsI_snoc hy2,List.map_append];rfl)
   have hm3 : mm ≤ 3000000 := by have := HM.out;omega
   have HT3 := hid (rthree_any ⟨ys,yq,yi⟩ wo)
   dsimp only at HT3 HRG
   clear hrg hy2 HKD
   go_wp2_with ((first
    | ((with_reducible refine wpList_load_row 23 g (p + t * 3) [.int .i64 ys,.int .i64 yq,.int .i64 yi] HRG.out Tryz.underlying23 rfl (info_id.trans rfl) ?_ ?_ ?_);kernel_rfl;rfl)
    | (go_at_call 62;(with_reducible refine HT3.out.mono ?_);rintro e w6 ⟨⟨g6,a6,rfl,hg6,hg7,hr6⟩,x6⟩;have HR6 := hid hr6;have X6 : Hid (Ext v0 w6) := hid (EO.out.next x6);have O56 := hid (own_below O5.out x6);clear hr6 x6 hg6 hg7)
    | (at_builtin;refine wpList_app rfl (.tmp 33) (.tmp 39) 43 rfl v0.heap.size 3 i1 (.int .i64 0) 1 8 Tryz.underlying43 hi' hz0' hz1' hz2' rfl (by omega) A5 (mm) c5 _ rfl O56.out w6.heap.size (some ⟨g6,0,none⟩) 3 a6 _ rfl (RdN.of_Rd HR6.out) (i8s_one _) (by simp only [maxLen];omega) (by omega) (X6.out.size) ?_;intro B7 d7 v7 o7 g7;have O7 := hid o7;have X7 : Hid (Ext v0 v7) := hid (below_app X6.out g7 O56.out (Nat.le_refl _) (X6.out.size));clear o7 g7)))
   exact ⟨⟨t + 1,mm + 3,B7,d7,by omega,hid (by have := HM.out;omega),by go_num,rfl,by rw [HTK.out];exact O7.out,X7.out⟩,by simp [intOf];omega⟩
  ·obtain rfl : t = n := by omega
   have HTF : Hid (opsI (kids.take t) = opsI kids) := hid (by rw [List.take_of_length_le (by rw [HLN.out];omega)])
   have hmm := HM.out
   subst hmm
   have HRO : Hid (Rd wo wo.heap.size A5 (3 * t) ((opsI kids).map (Value.int .i64))) := hid (by have h := Rd.of_own O5.out;rw [HTF.out] at h;exact h)
   have O30 := hid (own_below O3.out EO.out)
   clear O5 HTF HKD HM
   go_upto_region 9 with ((first
    | (go_at_call 60;(with_reducible refine (HI3.out wo A5 c5 HRO.out).mono ?_);rintro e w8 ⟨⟨A8,a8,rfl,o8⟩,x8⟩;have O8 := hid o8;have X8 : Hid (Ext w1 w8) := hid (X30.out.next x8);have O38 := hid (own_below O30.out x8);clear o8 x8)
    | (at_builtin;refine wpList_app rfl (.tmp 41) (.tmp 43) 49 rfl w1.heap.size 5 i0 (.int .u8 0) 1 1 Tryz.underlying49 hi hz0 hz1 hz2 rfl (by omega) B3 (k1 + k2) d3 _ rfl O38.out w8.heap.size A8 k3 a8 _ rfl (RdN.of_Rd (Rd.of_own O8.out)) (u8s_one _) (by simp only [maxLen];omega) (by omega) (X8.out.size) ?_;intro B9 d9 v9 o9 g9;have O9 := hid o9;have X9 : Hid (Ext w1 v9) := hid (below_app X8.out g9 O38.out (Nat.le_refl _) (X8.out.size));clear o9 g9)))
   have c11 : v9.cell? ⟨w.heap.size,11,none⟩ = some (.slice B m d) := (B1.out.ext X9.out).cell 11
   have HSC := hid (HI4.out v9 (E1.out.next X9.out))
   go_wp2_with ((first
    | (go_at_call 66;(with_reducible refine HSC.out.mono ?_);rintro e w10 ⟨⟨A10,a10,rfl,o10⟩,x10⟩;have O10 := hid o10;have X10 : Hid (Ext w1 w10) := hid (X9.out.next x10);have O910 := hid (own_below O9.out x10);clear o10 x10)
    | (at_builtin;refine wpList_app rfl (.tmp 45) (.tmp 48) 49 rfl w1.heap.size 5 i0 (.int .u8 0) 1 1 Tryz.underlying49 hi hz0 hz1 hz2 rfl (by omega) B9 (k1 + k2 + k3) d9 _ rfl O910.out w10.heap.size A10 k4 a10 _ rfl (RdN.of_Rd (Rd.of_own O10.out)) (u8s_one _) (by simp only [maxLen];omega) (by omega) (X10.out.size) ?_;intro B11 d11 v11 o11 g11;have O11 := hid o11;have X11 : Hid (Ext w1 v11) := hid (below_app X10.out g11 O910.out (Nat.le_refl _) (X10.out.size));clear o11 g11)))
   go_ret
   exact ⟨⟨B11,d11,rfl,own_lo O11.out E1.out.size⟩,E1.out.next X11.out⟩
end Go.Proofs.YtojcmcccahjphaaGreatDoor
/- patch.Message: what is sealed. Conditions: PatV, PatW. -/
set_option maxRecDepth 100000
set_option maxHeartbeats 8000000
namespace Go.Proofs.YtojcmcccahjphaaGreatDoor
open Go.RowKit
open Lib (hid)
attribute [local go_sem ↓] wp_at_zero wp_at_succ
def barP (p : PatA) : PatA := { p with sl := { data := #[] } }
theorem barP_S {w : World} {p : PatA} {X : List OX} {A : Option Addr} {n c : Nat} {B : Option Addr} {m d : Nat} (h : PatS w p X A n c B m d) : PatS w (barP p) X A n c B m d := ⟨h.needs,h.nle,h.ncap,h.nfew,h.ops,h.each,h.same,h.ole,h.ocap,h.ofew⟩
theorem encB_nil_le (s : ByteArray) : (encB { data := #[] }).length ≤ (encB s).length := by
 rw [encB_length,encB_length]
 have h : blen (mag (({ data := #[] } : ByteArray).size : Int)) = 0 := by decide
 rw [h]
 show 0 + 1 + 0 ≤ _
 omega
theorem barP_len (p : PatA) : (encP (barP p)).length ≤ (encP p).length := by
 have h := encB_nil_le p.sl
 unfold encP barP
 simp only [List.length_append]
 omega
theorem barP_W {p : PatA} (h : PatW p) : PatW (barP p) := ⟨h.nums,h.needs,h.ops,Nat.zero_le _,Nat.le_trans (barP_len p) h.size⟩
def msgP (p : PatA) : List Int := encP (barP p)
theorem pmessage_any (p : PatA) (cs : List Value) (w : World) (hp : PatV w p cs) (hw : PatW p) : Calls Tryz.prog 13 #[.agg cs.toArray] w fun e w' => (∃ A c,e = .returned (.slice A (msgP p).length c) ∧ Rd w' w'.heap.size A (msgP p).length (u8s (msgP p)) ∧ (msgP p).length ≤ c ∧ c ≤ maxLen) ∧ Ext w w' := by
 obtain ⟨X,A,n,c,B,m,d,rfl,hS⟩ := hp
 have HEN : Hid (∀ W,Ext w W → Calls Tryz.prog 30 #[.agg #[.int .i64 p.shop,.int .i64 p.seq,.int .i64 p.day,.slice A n c,.int .i64 p.clause,.slice B m d,.string { data := #[] }]] W fun e w' => (∃ A' k c',e = .returned (.slice A' k c') ∧ k = (msgP p).length ∧ Rd w' w'.heap.size A' k (u8s (msgP p)) ∧ k ≤ c' ∧ c' ≤ maxLen) ∧ Ext W w') := hid (fun W hW => (pencode_any (barP p) _ W ⟨X,A,n,c,B,m,d,rfl,barP_S (hS.ext hW)⟩ (barP_W hw)).mono fun e w' hq => by
  obtain ⟨⟨A',c',he,ho⟩,hE⟩ := hq
  exact ⟨⟨A',_,c',he,rfl,Rd.of_own ho,slice_cap ho⟩,hE⟩)
 clear hS hw
 obtain ⟨M,hM⟩ : ∃ M,M = msgP p := ⟨_,rfl⟩
 rw [← hM] at HEN ⊢
 clear hM
 obtain ⟨shop,seq,day,needs,clause,ops,sl⟩ := p
 dsimp only at HEN
 unfold patCl
 dsimp only
 go_enter Tryz.func13,Tryz.ntmps13
 go_upto_region 1 with fail
 obtain ⟨w1,hw1⟩ : ∃ x,x = w.alloc (.cells #[.int .i64 shop,.int .i64 seq,.int .i64 day,.slice A n c,.int .i64 clause,.slice B m d,.string sl] 37) := ⟨_,rfl⟩
 change Code.wp _ _ _ _ (w.alloc (.cells #[.int .i64 shop,.int .i64 seq,.int .i64 day,.slice A n c,.int .i64 clause,.slice B m d,.string sl] 37))
 rw [← hw1]
 have E1 : Hid (Ext w w1) := hid (by rw [hw1];exact (Ext.refl w).alloc _)
 have B1 : Hid (Blk w1 w.heap.size 37 [.int .i64 shop,.int .i64 seq,.int .i64 day,.slice A n c,.int .i64 clause,.slice B m d,.string sl]) := hid (by rw [hw1];exact Blk.fresh' _ _ _ _ _ rfl rfl)
 clear hw1
 have fz := B1.out.frozen 6
 have cd : w1.cell? ⟨w.heap.size,6,none⟩ = some (.string sl) := B1.out.cell 6
 go_upto_region 2 with fail
 obtain ⟨w2,hw2⟩ : ∃ x,x = w1.setCell ⟨w.heap.size,6,none⟩ (.string { data := #[] }) := ⟨_,rfl⟩
 change Code.wp _ _ _ _ (w1.setCell ⟨w.heap.size,6,none⟩ (.string { data := #[] }))
 rw [← hw2]
 have B2 : Hid (Blk w2 w.heap.size 37 [.int .i64 shop,.int .i64 seq,.int .i64 day,.slice A n c,.int .i64 clause,.slice B m d,.string { data := #[] }]) := hid (by rw [hw2];exact B1.out.set 6 _)
 have E2 : Hid (Ext w w2) := hid (by rw [hw2];exact E1.out.setCell (p := ⟨w.heap.size,6,none⟩) (Nat.le_refl _) _)
 clear hw2 fz cd
 go_wp2_with (first
  | (refine wpList_load_blk rfl 37 (.tmp 1) rfl w.heap.size (by kernel_rfl) B2.out Tryz.underlying37 rfl (pat_info.trans rfl) ?_)
  | (go_at_call 30;(with_reducible refine (HEN.out w2 E2.out).mono ?_);rintro e w3 ⟨⟨A3,k3,c3,rfl,hk3,hr3,hc3⟩,hE3⟩;have HK3 := hid hk3;have R3 := hid hr3;have C3 := hid hc3;have E3 : Hid (Ext w w3) := hid (E2.out.next hE3);clear hE3 hr3 hk3 hc3))
 go_ret
 rw [← HK3.out]
 exact ⟨⟨A3,c3,rfl,R3.out,C3.out⟩,E3.out⟩
end Go.Proofs.YtojcmcccahjphaaGreatDoor
