/- sign's Verify of a signature of the right length. Conditions: a height up to 6, a message of at most 1000000 bytes. -/
import Derived.Test.YtkjckmdiolgmcaaDoorSgW
import Derived.Test.YtkjckmdiolgmcaaDoorSgQ
import Derived.Laws.EntriesVeiled
import Derived.Laws.Shifts
set_option linter.unusedSimpArgs false
set_option linter.unusedVariables false
namespace Go.Proofs.YtkjckmdiolgmcaaDoor
open Go.RowKit
attribute [local go_sem ↓] wp_at_zero wp_at_succ
/-- Verify's way from a leaf to the root. -/
def climbD (X : List Int) (i : Nat) (v : List Int) : Nat → List Int
  | 0 => v
  | l + 1 => if i / 2 ^ l % 2 = 1 then nodeD (valD X (68 + l)) (climbD X i v l) else nodeD (climbD X i v l) (valD X (68 + l))
theorem climbD_dig (X : List Int) (i : Nat) (v : List Int) (hv : Dig v) : ∀ l, Dig (climbD X i v l)
  | 0 => hv
  | l + 1 => by unfold climbD; split <;> exact ofD_dig _ _
def rootD (pub : List Int) (h i : Nat) (msg : ByteArray) (X : List Int) : List Int := climbD X i (leafD (endD (i : Int) X (dgN (digestD pub (i : Int) msg)))) h
theorem bits_and1 (s : Nat) (h : s < 64) : bits .and .i64 (s : Int) 1 = ((s % 2 : Nat) : Int) := by
  have hx : ∀ s : Fin 64, bits .and .i64 ((s.val : Nat) : Int) 1 = ((s.val % 2 : Nat) : Int) := by decide
  exact hx ⟨s, h⟩
set_option maxHeartbeats 16000000 in
set_option maxRecDepth 100000 in
theorem verify_gen (pub : List Int) (h i p m : Nat) (msg S : ByteArray) (X : List Int) (w : World) (hpub : Dig pub) (h6 : h ≤ 6) (hp : p = 2 ^ h) (hip : i < p) (hm : msg.size ≤ 1000000) (hS : S = strOf (encInt (i : Int) ++ X)) (hX : Byt X) (hXm : X.length = m) (hmh : m = (68 + h) * 16) (hK : KTab w) :
    Calls Tryd.prog 12 #[.agg (u8s pub).toArray, .int .i64 (h : Int), .string msg, .string S] w fun e w' => ((rootD pub h i msg X = pub ∧ e = .returned (.tuple #[.int .i64 (i : Int), .int .i64 0])) ∨ (¬ rootD pub h i msg X = pub ∧ e = .returned (.tuple #[.int .i64 0, .int .i64 10]))) ∧ Ext w w' := by
  have HXL : Hid (X.length = m) := Lib.hid hXm
  have HMH : Hid (m = (68 + h) * 16) := Lib.hid hmh
  have HX := Lib.hid hX
  have HPB := Lib.hid hpub
  have HM : Hid (msg.size ≤ 1000000000) := Lib.hid (by omega)
  obtain ⟨RV, hRV⟩ : ∃ r, r = rootD pub h i msg X := ⟨_, rfl⟩
  have HRV := Lib.hid hRV
  rw [← hRV]
  clear hRV
  have HK := Lib.hid hK
  have hmf : ∀ (fn : Fn) (first cap : Array Value) (w : World), (Instr.makeFunc fn first cap).run Tryd.prog w = .ok (.func fn first cap) w := fun _ _ _ _ => rfl
  have hp64 : p ≤ 64 := by
    have := Nat.pow_le_pow_right (show 0 < 2 by decide) h6
    omega
  have hp2 : (2 : Int) ^ h = (p : Int) := by rw [hp]; exact_mod_cast rfl
  have HI : Hid (I64 (i : Int)) := Lib.hid ⟨by omega, by omega⟩
  have hle := encInt_le9 (i : Int) HI.out.1 HI.out.2
  have hEB := encInt_byt (i : Int) HI.out.1 HI.out.2
  obtain ⟨n, hn⟩ : ∃ n, n = (encInt (i : Int)).length := ⟨_, rfl⟩
  have hn9 : n ≤ 9 := by rw [hn]; exact hle
  have hn0 : 0 < n := by rw [hn, encInt_length]; omega
  have hsz : S.size = n + m := by rw [hS, strOf_size, List.length_append, ← hn, hXm]
  have hSB : bys S = encInt (i : Int) ++ X := by rw [hS]; exact bys_strOf _ (byt_app hEB hX)
  have hm1 : m ≤ 1000000 := by omega
  have hne1 : m ≤ (68 + h) * 16 := by omega
  have hne2 : (68 + h) * 16 ≤ m := by omega
  have hm6 : 1088 ≤ m := by omega
  clear hmh
  have hcut : S.extract n S.size = strOf X := by
    rw [← strOf_bys (S.extract n S.size), bys_extract, hSB]
    congr 1
    rw [hn, List.drop_left]
    rw [List.take_of_length_le]
    rw [hsz, hXm, hn]
    omega
  have hXs : (strOf X).size = m := by rw [strOf_size]; exact hXm
  obtain ⟨sz, hz⟩ : ∃ z, z = S.size := ⟨_, rfl⟩
  have hszz : sz = n + m := by rw [hz, hsz]
  have HCV : Hid (∀ W, ∃ cb wb, (convert 9 43 (.string S)).run Tryd.prog W = .ok (.slice (some ⟨W.heap.size, 0, none⟩) sz cb) wb ∧ Calls Tryd.prog 21 #[.slice (some ⟨W.heap.size, 0, none⟩) sz cb] wb (fun e w' => e = .returned (.tuple #[.int .i64 (i : Int), .int .i64 (n : Int), .int .i64 0]) ∧ wb = w') ∧ Ext W wb) := Lib.hid (fun W => by
    obtain ⟨cb, wb, hcb, hc2, hRb, hBb⟩ := run_toBytes2 (P := Tryd.prog) W 9 43 5 S Tryd.underlying9 Tryd.underlying43 Tryd.underlying5 (by omega)
    rw [hSB] at hRb
    rw [← hz] at hcb hRb hc2
    have hg := gint_any (encInt (i : Int) ++ X) _ sz cb wb hRb (byt_app hEB hX) hc2.1 hc2.2
    rw [getI_enc (i : Int) X HI.out.1 HI.out.2, ← hn] at hg
    exact ⟨cb, wb, hcb, hg, hBb⟩)
  have HCX : Hid (∀ W, ∃ cb wb, (convert 9 43 (.string (strOf X))).run Tryd.prog W = .ok (.slice (some ⟨W.heap.size, 0, none⟩) m cb) wb ∧ (m ≤ cb ∧ cb ≤ 9223372036854775807) ∧ Rd wb wb.heap.size (some ⟨W.heap.size, 0, none⟩) m (u8s X) ∧ Ext W wb) := Lib.hid (fun W => by
    obtain ⟨cb, wb, hcb, hc2, hRb, hBb⟩ := run_toBytes2 (P := Tryd.prog) W 9 43 5 (strOf X) Tryd.underlying9 Tryd.underlying43 Tryd.underlying5 (by omega)
    rw [bys_strOf X hX, hXs] at hRb
    rw [hXs] at hcb hc2
    exact ⟨cb, wb, hcb, hc2, hRb, hBb⟩)
  have hnS : (n : Int) ≤ (S.size : Int) := by omega
  have hnz : n ≤ sz := by omega
  clear hn hp hle hEB hSB hXm hS hszz hz hsz hXs
  go_enter Tryd.func12, Tryd.ntmps12
  go_upto_region 1 with fail
  obtain ⟨w1, hw1⟩ : ∃ x, x = w.alloc (.cells (u8s pub).toArray 23) := ⟨_, rfl⟩
  change Code.wp _ _ _ _ (w.alloc (.cells (u8s pub).toArray 23))
  rw [← hw1]
  have E1 : Hid (Ext w w1) := Lib.hid (by rw [hw1]; exact (Ext.refl w).alloc _)
  have B1 : Hid (Blk w1 w.heap.size 23 (u8s pub)) := Lib.hid (by rw [hw1]; exact Blk.fresh' _ _ _ _ _ rfl rfl)
  clear hw1
  obtain ⟨cb, wb, hcb, HGI0, hEb⟩ := HCV.out w1
  have HGI := Lib.hid HGI0; have EB := Lib.hid hEb
  clear HGI0 hEb
  go_upto_region 8 with (go_loud (first
    | (go_at_call 14; (with_reducible refine (valid_ok h w1 h6).mono ?_); rintro e w3 ⟨rfl, rfl⟩)
    | (go_at_call 21; (with_reducible refine HGI.out.mono ?_); rintro e w3 ⟨rfl, rfl⟩)))
  clear hcb HCV
  obtain ⟨w3, hw3⟩ : ∃ x, x = wb.alloc (.cells #[.int .i64 (i : Int)] 3) := ⟨_, rfl⟩
  change Code.wp _ _ _ _ (wb.alloc (.cells #[.int .i64 (i : Int)] 3))
  rw [← hw3]
  have EW3 : Hid (Ext wb w3) := Lib.hid (by rw [hw3]; exact (Ext.refl wb).alloc _)
  have BI : Hid (Blk w3 wb.heap.size 3 [.int .i64 (i : Int)]) := Lib.hid (by rw [hw3]; exact Blk.fresh' _ _ _ _ _ rfl rfl)
  clear hw3
  obtain ⟨cx, w4, hcx, hcc, hrx, he4⟩ := HCX.out w3
  have E4 : Hid (Ext w3 w4) := Lib.hid he4
  have RX := Lib.hid hrx
  obtain ⟨hc1, hc2⟩ := hcc
  clear hrx he4 HCX
  go_upto_region 9 with fail
  clear hcx
  obtain ⟨gx, hgx⟩ : ∃ x, x = w3.heap.size := ⟨_, rfl⟩
  rw [← hgx] at RX ⊢
  obtain ⟨w5, hw5⟩ : ∃ x, x = w4.alloc (.cells #[.slice (some ⟨gx, 0, none⟩) m cx] 43) := ⟨_, rfl⟩
  change Code.wp _ _ _ _ (w4.alloc (.cells #[.slice (some ⟨gx, 0, none⟩) m cx] 43))
  rw [← hw5]
  have E5 : Hid (Ext w4 w5) := Lib.hid (by rw [hw5]; exact (Ext.refl w4).alloc _)
  have BR : Hid (Blk w5 w4.heap.size 43 [.slice (some ⟨gx, 0, none⟩) m cx]) := Lib.hid (by rw [hw5]; exact Blk.fresh' _ _ _ _ _ rfl rfl)
  have EA : Hid (Ext w w5) := Lib.hid (((E1.out.next EB.out).next EW3.out).next (E4.out.next E5.out))
  have BI5 := Lib.hid (BI.out.ext (E4.out.next E5.out))
  clear hw5 hgx
  have ci := BI5.out.one
  have cr := BR.out.one
  have hd0 : decide ((i : Int) < 0) = false := decide_eq_false (by omega)
  have hd1 : decide ((p : Int) ≤ (i : Int)) = false := decide_eq_false (by omega)
  have hdp : decide (p ≤ i) = false := decide_eq_false (by omega)
  have hwp : IntKind.i64.wrap (p : Int) = (p : Int) := wrap_id _ (by omega) (by omega)
  obtain ⟨r, hr⟩ : ∃ r : Nat, r = 68 + h := ⟨_, rfl⟩
  obtain ⟨q, hq⟩ : ∃ q : Nat, q = r * 16 := ⟨_, rfl⟩
  have hwr : IntKind.i64.wrap (68 + (h : Int)) = (r : Int) := by rw [wrap_id _ (by omega) (by omega)]; omega
  have hwq : IntKind.i64.wrap ((r : Int) * 16) = (q : Int) := by rw [wrap_id _ (by omega) (by omega)]; omega
  have hmq : ((m : Int) != (q : Int)) = false := by rw [bne_eq_false_iff_eq]; omega
  clear hr hq
  go_wp2_with fail
  go_quiet (fail)
  clear hd0 hd1 hdp hwp hwr hwq hmq ci cr
  generalize hwd : w5.drewN nq = w6
  have E56 : Hid (Ext w5 w6) := Lib.hid (by rw [← hwd]; exact (Ext.refl w5).drewN _)
  clear hwd
  have EW6 := Lib.hid (EA.out.next E56.out)
  have HK6 := Lib.hid (HK.out.below EW6.out)
  go_upto_region 12 with fail
  obtain ⟨w7, hw7⟩ : ∃ x, x = w6.alloc (.cells #[.func (.func 22) #[] #[.pointer (some ⟨w4.heap.size, 0, none⟩)]] 57) := ⟨_, rfl⟩
  change Code.wp _ _ _ _ (w6.alloc (.cells #[.func (.func 22) #[] #[.pointer (some ⟨w4.heap.size, 0, none⟩)]] 57))
  rw [← hw7]
  obtain ⟨vb, hvb⟩ : ∃ x, x = w6.heap.size := ⟨_, rfl⟩
  rw [← hvb]
  have E67 : Hid (Ext w6 w7) := Lib.hid (by rw [hw7]; exact (Ext.refl w6).alloc _)
  have BF : Hid (Blk w7 vb 57 [.func (.func 22) #[] #[.pointer (some ⟨w4.heap.size, 0, none⟩)]]) := Lib.hid (by rw [hw7]; exact Blk.fresh' _ _ _ _ _ rfl hvb)
  have E57 := Lib.hid (E56.out.next E67.out)
  have EW7 := Lib.hid (EA.out.next E57.out)
  clear hw7 hvb
  obtain ⟨ib, hib⟩ : ∃ x, x = wb.heap.size := ⟨_, rfl⟩
  obtain ⟨rb, hrb⟩ : ∃ x, x = w4.heap.size := ⟨_, rfl⟩
  rw [← hib] at BI5 ⊢
  rw [← hrb] at BR BF ⊢
  have BI7 := Lib.hid (BI5.out.ext E57.out)
  have BR7 := Lib.hid (BR.out.ext E57.out)
  have RX7 : Hid (Rd w7 w7.heap.size (some ⟨gx, 0, none⟩) m (u8s X)) := Lib.hid (RX.out.ext' (E5.out.next E57.out))
  have B17 : Hid (Blk w7 w.heap.size 23 (u8s pub)) := Lib.hid (B1.out.ext ((EB.out.next EW3.out).next ((E4.out.next E5.out).next E57.out)))
  clear hib hrb BI BI5 BR RX EA E56 E57 E67 E5 E4 EW3 EB E1 B1 HK6 HGI EW6
  obtain ⟨D, hD⟩ : ∃ D, D = digestD pub (i : Int) msg := ⟨_, rfl⟩
  have HD := Lib.hid hD
  have HDD : Hid (Dig D) := Lib.hid (by rw [hD]; exact ofD_dig _ _)
  have K7 := Lib.hid (HK.out.below EW7.out)
  have HDG : Hid (Calls Tryd.prog 13 #[.agg (u8s pub).toArray, .int .i64 (i : Int), .string msg] w7 fun e w' => e = .returned (.agg (u8s D).toArray) ∧ Ext w7 w') := Lib.hid (by
    rw [hD]
    exact digest_any pub (i : Int) msg w7 HPB.out HI.out HM.out K7.out)
  have HPL : Hid ((u8s pub).length = 16) := Lib.hid (by rw [u8s_len]; exact HPB.out.l)
  clear hD
  have ci := BI7.out.one
  go_upto_region 13 with (go_loud (first
    | (refine wpList_load_blk rfl 23 (.tmp 4) rfl w.heap.size (by kernel_rfl) B17.out Tryd.underlying23 rfl (dg_info.trans (congrArg some HPL.out.symm)) ?_)
    | (go_at_call 13; (with_reducible refine HDG.out.mono ?_); rintro e w8 ⟨rfl, hE8⟩; have E8 := Lib.hid hE8; clear hE8)
    | (go_at_call 7; (with_reducible refine (digits_any D w8 HDD.out.l HDD.out.b).mono ?_); rintro e w9 ⟨gd, rfl, hgd, hbd, hE9⟩; have E9 : Hid (Ext w8 w9) := Lib.hid hE9; have BD := Lib.hid hbd; clear hgd hbd hE9)))
  clear ci
  obtain ⟨w10, hw10⟩ : ∃ x, x = w9.alloc (.cells #[.slice (some ⟨gd, 0, none⟩) 68 68] 25) := ⟨_, rfl⟩
  change Code.wp _ _ _ _ (w9.alloc (.cells #[.slice (some ⟨gd, 0, none⟩) 68 68] 25))
  rw [← hw10]
  obtain ⟨fb, hfb⟩ : ∃ x, x = w9.heap.size := ⟨_, rfl⟩
  rw [← hfb]
  have E9A : Hid (Ext w9 w10) := Lib.hid (by rw [hw10]; exact (Ext.refl w9).alloc _)
  have BG : Hid (Blk w10 fb 25 [.slice (some ⟨gd, 0, none⟩) 68 68]) := Lib.hid (by rw [hw10]; exact Blk.fresh' _ _ _ _ _ rfl hfb)
  have E7A : Hid (Ext w7 w10) := Lib.hid ((E8.out.next E9.out).next E9A.out)
  have BDA := Lib.hid (BD.out.ext E9A.out)
  have KA := Lib.hid (K7.out.below E7A.out)
  have EWA := Lib.hid (EW7.out.next E7A.out)
  have CAP : Hid (Caps w10 (i : Int) X (dgN D) ib fb vb rb) := Lib.hid ⟨(BI7.out.ext E7A.out).one, ⟨gd, 68, BG.out.one, BDA.out.lt, fun c hc => (BDA.out.cell c).trans (dgN_cell D hc)⟩, (BF.out.ext E7A.out).one, ⟨gx, m, cx, (BR7.out.ext E7A.out).one, RX7.out.ext' E7A.out, hm6, hc1, hc2⟩, (BI7.out.ext E7A.out).lt, BG.out.lt, (BF.out.ext E7A.out).lt, (BR7.out.ext E7A.out).lt, HI.out, fun c => dgN_le D c⟩
  obtain ⟨LV, hLV⟩ : ∃ V, V = leafD (endD (i : Int) X (dgN D)) := ⟨_, rfl⟩
  have HLV := Lib.hid hLV
  have HLD : Hid (Dig LV) := Lib.hid (by rw [hLV]; exact ofD_dig _ _)
  have HVD : Hid (∀ k, k < 68 + h → Dig (valD X k)) := Lib.hid (fun k hk => valD_dig HX.out (by rw [HXL.out, HMH.out]; omega))
  have HLF : Hid (Calls Tryd.prog 23 #[.func (.func 24) #[] #[.pointer (some ⟨ib, 0, none⟩), .pointer (some ⟨fb, 0, none⟩), .pointer (some ⟨vb, 0, none⟩)]] w10 fun e w' => e = .returned (.agg (u8s LV).toArray) ∧ Ext w10 w') := Lib.hid (by
    rw [hLV]
    exact leaf24_any (endD (i : Int) X (dgN D)) ib fb vb w10 (fun t ht => endD_dig (HVD.out t (by omega))) (fun t ht W hW => chain2_any (i : Int) X (dgN D) ib fb vb rb t W (CAP.out.ext hW) HX.out ht (KA.out.below hW)) KA.out)
  have HLL : Hid ((u8s LV).length = 16) := Lib.hid (by rw [u8s_len]; exact HLD.out.l)
  have zz : ∀ W, (zeroValue 23).run Tryd.prog W = .ok (.agg (u8s (List.replicate 16 0)).toArray) W := fun W => by kernel_rfl
  obtain ⟨Z, hZ⟩ : ∃ Z, Z = u8s (List.replicate 16 0) := ⟨_, rfl⟩
  have HZL : Hid (Z.length = 16) := Lib.hid (by rw [hZ]; rfl)
  rw [← hZ] at zz
  clear hZ hLV hw10 hfb E8 E9 E9A BD BG BDA K7 HDG
  go_upto_region 14 with (go_loud (first
    | (go_at_call 23; (with_reducible refine HLF.out.mono ?_); rintro e wB ⟨rfl, hEB⟩; have EAB := Lib.hid hEB; clear hEB)
    | ((refine wpList_store_fresh rfl 23 (.tmp 16) (.tmp 63) rfl _ wB.heap.size rfl Z (u8s LV) 23 (by rfl) (by rfl) rfl (dg_info.trans (congrArg some HLL.out.symm)) (HZL.out.trans HLL.out.symm) (u8s_one LV) ?_); intro wC hwC hEC hzC; have ECC : Hid (Ext wB wC) := Lib.hid hEC; have BV := Lib.hid hwC; clear hwC hEC hzC)))
  obtain ⟨tv, htv⟩ : ∃ x, x = wB.heap.size := ⟨_, rfl⟩
  rw [← htv] at BV ⊢
  have HTV := Lib.hid htv
  have KB := Lib.hid (KA.out.below EAB.out)
  have CB := Lib.hid (CAP.out.ext EAB.out)
  have BPB : Hid (Blk wB w.heap.size 23 (u8s pub)) := Lib.hid (B17.out.ext (E7A.out.next EAB.out))
  have EWB := Lib.hid (EWA.out.next EAB.out)
  have HVA : Hid (∀ k : Nat, k < 68 + h → ∀ W, Ext wB W → Calls Tryd.prog 22 #[.int .i64 (k : Int), .pointer (some ⟨rb, 0, none⟩)] W fun e w' => e = .returned (.agg (u8s (valD X k)).toArray) ∧ Ext W w') := Lib.hid (fun k hk W hW => by
    have hr := RX7.out.ext' ((E7A.out.next EAB.out).next hW)
    have hb := ((BR7.out.ext (E7A.out.next EAB.out)).ext hW)
    exact value_any X gx m cx rb k W hb.one hr (by have := HMH.out; omega) (by omega) hc1 hc2 hb.lt)
  have HCL : Hid (climbD X i LV 0 = LV) := Lib.hid rfl
  have HRT : Hid (climbD X i LV h = RV) := Lib.hid (by rw [HRV.out, HLV.out, HD.out]; rfl)
  have HCD : Hid (∀ l, Dig (climbD X i LV l)) := Lib.hid (climbD_dig X i LV HLD.out)
  clear htv HLF CAP KA EAB EWA E7A BI7 BR7 RX7 B17 EW7 BF hm6 hc1 hc2
  go_wp2_with fail
  go_loopw [65] (fun x wr => ∃ t : Nat, t ≤ h ∧ x = .int .i64 (t : Int) ∧ Blk wr tv 23 (u8s (climbD X i LV t)) ∧ Ext wB wr) (fun x _ => h - (intOf x).toNat)
  case atStart => exact ⟨0, by omega, rfl, BV.out, ECC.out⟩
  case round =>
    clear BV ECC
    obtain ⟨t, ht, rfl, hbv, hE⟩ := hrel
    have BV := Lib.hid hbv; have EO := Lib.hid hE
    clear hbv hE
    obtain ⟨wo, rfl⟩ : ∃ x : World, x = wr := ⟨_, rfl⟩
    by_cases hlt : t < h
    · have ci := (CB.out.ext EO.out).cIx
      obtain ⟨s, hs'⟩ : ∃ s, s = i / 2 ^ t := ⟨_, rfl⟩
      have hs64 : s < 64 := by
        have := Nat.div_le_self i (2 ^ t)
        omega
      have hsr : (i : Int) / 2 ^ t = (s : Int) := by rw [hs']; exact_mod_cast rfl
      have HSUC : Hid (climbD X i LV (t + 1) = if s % 2 = 1 then nodeD (valD X (68 + t)) (climbD X i LV t) else nodeD (climbD X i LV t) (valD X (68 + t))) := Lib.hid (by rw [hs']; rfl)
      have hand := bits_and1 s hs64
      have HVT : Hid (∀ W, Ext wo W → Calls Tryd.prog 22 #[.int .i64 (68 + (t : Int)), .pointer (some ⟨rb, 0, none⟩)] W fun e w' => e = .returned (.agg (u8s (valD X (68 + t))).toArray) ∧ Ext W w') := Lib.hid (fun W hW => by
        have h := HVA.out (68 + t) (by omega) W (EO.out.next hW)
        rw [show ((68 + t : Nat) : Int) = 68 + (t : Int) by omega] at h
        exact h)
      have HD1 : Hid (Dig (valD X (68 + t))) := Lib.hid (HVD.out (68 + t) (by omega))
      have HD2 : Hid (Dig (climbD X i LV t)) := Lib.hid (HCD.out t)
      have HL3 : Hid ((u8s (climbD X i LV (t + 1))).length = 16) := Lib.hid (by rw [u8s_len]; exact (HCD.out (t + 1)).l)
      have HL2 : Hid ((u8s (climbD X i LV t)).length = 16) := Lib.hid (by rw [u8s_len]; exact HD2.out.l)
      obtain ⟨D1, hD1⟩ : ∃ d, d = valD X (68 + t) := ⟨_, rfl⟩
      obtain ⟨D2, hD2⟩ : ∃ d, d = climbD X i LV t := ⟨_, rfl⟩
      obtain ⟨D3, hD3⟩ : ∃ d, d = climbD X i LV (t + 1) := ⟨_, rfl⟩
      have HD3 := Lib.hid hD3
      rw [← hD1] at HVT HD1 HSUC
      rw [← hD2] at BV HD2 HL2 HSUC
      rw [← hD3] at HL3 HSUC
      clear hs' hD1 hD2 hD3
      rcases (show s % 2 = 1 ∨ s % 2 = 0 by omega) with hodd | hodd
      · have HNO : Hid (∀ W, Ext wo W → Calls Tryd.prog 25 #[.agg (u8s D1).toArray, .agg (u8s D2).toArray] W fun e w' => e = .returned (.agg (u8s D3).toArray) ∧ Ext W w') := Lib.hid (fun W hW => by
          rw [HSUC.out, if_pos hodd]
          exact node_any D1 D2 W HD1.out HD2.out (KB.out.below (EO.out.next hW)))
        rw [hodd] at hand
        have hand2 : bits .and .i64 (s : Int) 1 = 1 := hand
        clear hand hodd
        go_upto_region 18 with fail
        clear ci hsr hand2
        refine wp_region_flowF 6 ?FW78 (fun us => ?_) (by kernel_rfl) (by kernel_rfl) (fun a b => Ext a b) Ext.refl (fun h1 h2 => h1.next h2) (fun i v W => match i with
          | 0 => v = .func (.func 22) #[] #[.pointer (some ⟨rb, 0, none⟩)]
          | 1 => v = .int .i64 (t : Int)
          | 2 => v = .int .i64 (68 + (t : Int))
          | 3 => v = .agg (u8s D1).toArray
          | 4 => v = .agg (u8s D2).toArray
          | 5 => v = .agg (u8s D3).toArray
          | _ => True) ?_ ?_
        case refine_1 =>
          simp only [List.take_succ_cons, List.take_zero, flowAct, Nat.zero_add, Nat.reduceAdd, Act.put, List.setIfInBounds_toArray, List.set_cons_succ, List.set_cons_zero]
          rfl
        · simp only [List.take_succ_cons, List.take_zero, flowStepsF]
          refine ⟨?_, ?_, ?_, ?_, ?_, ?_, trivial⟩
          · intro us W K hE hd hK
            have xk := (CB.out.ext (EO.out.next (sg_undrew hE))).cFn
            dsimp only at hK ⊢
            have HK := Lib.hid hK; have HE := Lib.hid hE
            clear hK hd hE
            go_wp2_with fail
            exact K_at (HK.out (.func (.func 22) #[] #[.pointer (some ⟨rb, 0, none⟩)]) W (fun _ _ => rfl) (Ext.refl W)) (by kernel_rfl)
          · intro us W K hE hd hK
            dsimp only at hK ⊢
            have HK := Lib.hid hK; have HE := Lib.hid hE
            clear hK hd hE
            go_wp2_with fail
            exact K_at (HK.out (.int .i64 (t : Int)) W (fun _ _ => rfl) (Ext.refl W)) (by kernel_rfl)
          · intro us W K hE hd hK
            have d1 := hd 1 (by kernel_rfl)
            dsimp only at hK ⊢
            rw [d1] at hK ⊢
            have HK := Lib.hid hK; have HE := Lib.hid hE
            clear hK hd hE d1
            go_wp2_with fail
            exact K_at (HK.out (.int .i64 (68 + (t : Int))) W (fun _ _ => rfl) (Ext.refl W)) (by kernel_rfl)
          · intro us W K hE hd hK
            have d0 := hd 0 (by kernel_rfl)
            have d2 := hd 2 (by kernel_rfl)
            have EXW := Lib.hid (sg_undrew hE)
            dsimp only at hK ⊢
            rw [d0, d2] at hK ⊢
            have HK := Lib.hid hK; have HE := Lib.hid hE
            clear hK hd hE d0 d2
            go_wp2_with (go_loud (go_at_call 22; (with_reducible refine (HVT.out W EXW.out).mono ?_); rintro e w6 ⟨rfl, hB6⟩))
            exact K_at (HK.out (.agg (u8s D1).toArray) w6 (fun _ _ => rfl) hB6) (by kernel_rfl)
          · intro us W K hE hd hK
            have BVW := Lib.hid (BV.out.ext (sg_undrew hE))
            dsimp only at hK ⊢
            have HK := Lib.hid hK; have HE := Lib.hid hE
            clear hK hd hE
            go_wp2_with (go_loud (refine wpList_load_blk rfl 23 (.tmp 16) rfl tv (by kernel_rfl) BVW.out Tryd.underlying23 rfl (dg_info.trans (congrArg some HL2.out.symm)) ?_))
            exact K_at (HK.out (.agg (u8s D2).toArray) W (fun _ _ => rfl) (Ext.refl W)) (by kernel_rfl)
          · intro us W K hE hd hK
            have d3 := hd 3 (by kernel_rfl)
            have d4 := hd 4 (by kernel_rfl)
            have EXW := Lib.hid (sg_undrew hE)
            dsimp only at hK ⊢
            rw [d3, d4] at hK ⊢
            have HK := Lib.hid hK; have HE := Lib.hid hE
            clear hK hd hE d3 d4
            go_wp2_with (go_loud (go_at_call 25; (with_reducible refine (HNO.out W EXW.out).mono ?_); rintro e w6 ⟨rfl, hB6⟩))
            exact K_at (HK.out (.agg (u8s D3).toArray) w6 (fun _ _ => rfl) hB6) (by kernel_rfl)
        · intro us W hE hd
          try dsimp only
          have d5 := hd 5 (by decide)
          simp only [List.drop_succ_cons, List.drop_zero]
          rw [d5]
          have NE := Lib.hid (sg_undrew hE)
          have BVW := Lib.hid (BV.out.ext NE.out)
          clear hd hE d5
          go_upto_region 20 with (refine wpList_store_blk rfl 23 (.tmp 16) (.tmp 78) (by rfl) tv (u8s D3) rfl rfl BVW.out (dg_info.trans (congrArg some HL3.out.symm)) (HL2.out.trans HL3.out.symm) (u8s_one _) ?_; intro w9 hw9 hb9)
          have B9 := Lib.hid hb9
          have E9 : Hid (Ext wB w9) := Lib.hid (by rw [hw9.out]; exact (EO.out.next NE.out).setRow (by rw [HTV.out]; exact Nat.le_refl _) _)
          clear hw9 hb9
          go_wp2_with fail
          go_roundw
          case rel => exact ⟨t + 1, by omega, by go_num, by rw [← HD3.out]; exact B9.out, E9.out⟩
          case measure => simp [intOf]; omega
      · have HNO : Hid (∀ W, Ext wo W → Calls Tryd.prog 25 #[.agg (u8s D2).toArray, .agg (u8s D1).toArray] W fun e w' => e = .returned (.agg (u8s D3).toArray) ∧ Ext W w') := Lib.hid (fun W hW => by
          rw [HSUC.out, if_neg (by omega)]
          exact node_any D2 D1 W HD2.out HD1.out (KB.out.below (EO.out.next hW)))
        rw [hodd] at hand
        have hand2 : bits .and .i64 (s : Int) 1 = 0 := hand
        clear hand hodd
        go_upto_region 19 with fail
        clear ci hsr hand2
        refine wp_region_flowF 6 ?FW84 (fun us => ?_) (by kernel_rfl) (by kernel_rfl) (fun a b => Ext a b) Ext.refl (fun h1 h2 => h1.next h2) (fun i v W => match i with
          | 0 => v = .agg (u8s D2).toArray
          | 1 => v = .func (.func 22) #[] #[.pointer (some ⟨rb, 0, none⟩)]
          | 2 => v = .int .i64 (t : Int)
          | 3 => v = .int .i64 (68 + (t : Int))
          | 4 => v = .agg (u8s D1).toArray
          | 5 => v = .agg (u8s D3).toArray
          | _ => True) ?_ ?_
        case refine_1 =>
          simp only [List.take_succ_cons, List.take_zero, flowAct, Nat.zero_add, Nat.reduceAdd, Act.put, List.setIfInBounds_toArray, List.set_cons_succ, List.set_cons_zero]
          rfl
        · simp only [List.take_succ_cons, List.take_zero, flowStepsF]
          refine ⟨?_, ?_, ?_, ?_, ?_, ?_, trivial⟩
          · intro us W K hE hd hK
            have BVW := Lib.hid (BV.out.ext (sg_undrew hE))
            dsimp only at hK ⊢
            have HK := Lib.hid hK; have HE := Lib.hid hE
            clear hK hd hE
            go_wp2_with (go_loud (refine wpList_load_blk rfl 23 (.tmp 16) rfl tv (by kernel_rfl) BVW.out Tryd.underlying23 rfl (dg_info.trans (congrArg some HL2.out.symm)) ?_))
            exact K_at (HK.out (.agg (u8s D2).toArray) W (fun _ _ => rfl) (Ext.refl W)) (by kernel_rfl)
          · intro us W K hE hd hK
            have xk := (CB.out.ext (EO.out.next (sg_undrew hE))).cFn
            dsimp only at hK ⊢
            have HK := Lib.hid hK; have HE := Lib.hid hE
            clear hK hd hE
            go_wp2_with fail
            exact K_at (HK.out (.func (.func 22) #[] #[.pointer (some ⟨rb, 0, none⟩)]) W (fun _ _ => rfl) (Ext.refl W)) (by kernel_rfl)
          · intro us W K hE hd hK
            dsimp only at hK ⊢
            have HK := Lib.hid hK; have HE := Lib.hid hE
            clear hK hd hE
            go_wp2_with fail
            exact K_at (HK.out (.int .i64 (t : Int)) W (fun _ _ => rfl) (Ext.refl W)) (by kernel_rfl)
          · intro us W K hE hd hK
            have d2 := hd 2 (by kernel_rfl)
            dsimp only at hK ⊢
            rw [d2] at hK ⊢
            have HK := Lib.hid hK; have HE := Lib.hid hE
            clear hK hd hE d2
            go_wp2_with fail
            exact K_at (HK.out (.int .i64 (68 + (t : Int))) W (fun _ _ => rfl) (Ext.refl W)) (by kernel_rfl)
          · intro us W K hE hd hK
            have d1 := hd 1 (by kernel_rfl)
            have d3 := hd 3 (by kernel_rfl)
            have EXW := Lib.hid (sg_undrew hE)
            dsimp only at hK ⊢
            rw [d1, d3] at hK ⊢
            have HK := Lib.hid hK; have HE := Lib.hid hE
            clear hK hd hE d1 d3
            go_wp2_with (go_loud (go_at_call 22; (with_reducible refine (HVT.out W EXW.out).mono ?_); rintro e w6 ⟨rfl, hB6⟩))
            exact K_at (HK.out (.agg (u8s D1).toArray) w6 (fun _ _ => rfl) hB6) (by kernel_rfl)
          · intro us W K hE hd hK
            have d0 := hd 0 (by kernel_rfl)
            have d4 := hd 4 (by kernel_rfl)
            have EXW := Lib.hid (sg_undrew hE)
            dsimp only at hK ⊢
            rw [d0, d4] at hK ⊢
            have HK := Lib.hid hK; have HE := Lib.hid hE
            clear hK hd hE d0 d4
            go_wp2_with (go_loud (go_at_call 25; (with_reducible refine (HNO.out W EXW.out).mono ?_); rintro e w6 ⟨rfl, hB6⟩))
            exact K_at (HK.out (.agg (u8s D3).toArray) w6 (fun _ _ => rfl) hB6) (by kernel_rfl)
        · intro us W hE hd
          try dsimp only
          have d5 := hd 5 (by decide)
          simp only [List.drop_succ_cons, List.drop_zero]
          rw [d5]
          have NE := Lib.hid (sg_undrew hE)
          have BVW := Lib.hid (BV.out.ext NE.out)
          clear hd hE d5
          go_upto_region 20 with (refine wpList_store_blk rfl 23 (.tmp 16) (.tmp 84) (by rfl) tv (u8s D3) rfl rfl BVW.out (dg_info.trans (congrArg some HL3.out.symm)) (HL2.out.trans HL3.out.symm) (u8s_one _) ?_; intro w9 hw9 hb9)
          have B9 := Lib.hid hb9
          have E9 : Hid (Ext wB w9) := Lib.hid (by rw [hw9.out]; exact (EO.out.next NE.out).setRow (by rw [HTV.out]; exact Nat.le_refl _) _)
          clear hw9 hb9
          go_wp2_with fail
          go_roundw
          case rel => exact ⟨t + 1, by omega, by go_num, by rw [← HD3.out]; exact B9.out, E9.out⟩
          case measure => simp [intOf]; omega
    · obtain rfl : t = h := by omega
      have HRL : Hid (Dig RV) := Lib.hid (by rw [← HRT.out]; exact HCD.out _)
      have BVR : Hid (Blk wo tv 23 (u8s RV)) := Lib.hid (by rw [← HRT.out]; exact BV.out)
      have BPO := Lib.hid (BPB.out.ext EO.out)
      have HL2 : Hid ((u8s RV).length = 16) := Lib.hid (by rw [u8s_len]; exact HRL.out.l)
      have hq := dig_equal RV pub HRL.out HPB.out
      have ci := (CB.out.ext EO.out).cIx
      clear BV
      by_cases heq : RV = pub
      · have hq2 : ∀ W, (Op.equalIn 10000 23 (.agg (u8s RV).toArray) (.agg (u8s pub).toArray)).run Tryd.prog W = .ok true W := fun W => by rw [hq W, decide_eq_true heq]
        have HEQ := Lib.hid heq
        clear hq heq
        go_wp2_with (go_loud (first
          | (refine wpList_load_blk rfl 23 (.tmp 16) rfl tv (by kernel_rfl) BVR.out Tryd.underlying23 rfl (dg_info.trans (congrArg some HL2.out.symm)) ?_)
          | (refine wpList_load_blk rfl 23 (.tmp 4) rfl w.heap.size (by kernel_rfl) BPO.out Tryd.underlying23 rfl (dg_info.trans (congrArg some HPL.out.symm)) ?_)))
        go_ret2
        exact ⟨Or.inl ⟨HEQ.out, rfl⟩, EWB.out.next EO.out⟩
      · have hq2 : ∀ W, (Op.equalIn 10000 23 (.agg (u8s RV).toArray) (.agg (u8s pub).toArray)).run Tryd.prog W = .ok false W := fun W => by rw [hq W, decide_eq_false heq]
        have HEQ := Lib.hid heq
        clear hq heq
        go_wp2_with (go_loud (first
          | (refine wpList_load_blk rfl 23 (.tmp 16) rfl tv (by kernel_rfl) BVR.out Tryd.underlying23 rfl (dg_info.trans (congrArg some HL2.out.symm)) ?_)
          | (refine wpList_load_blk rfl 23 (.tmp 4) rfl w.heap.size (by kernel_rfl) BPO.out Tryd.underlying23 rfl (dg_info.trans (congrArg some HPL.out.symm)) ?_)))
        go_ret2
        exact ⟨Or.inr ⟨HEQ.out, rfl⟩, EWB.out.next EO.out⟩
end Go.Proofs.YtkjckmdiolgmcaaDoor
