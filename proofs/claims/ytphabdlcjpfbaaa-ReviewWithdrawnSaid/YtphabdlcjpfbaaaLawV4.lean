/- ReviewWithdrawn: for all numbers the law answers true and leaves its arguments as they were. No condition. -/
import Derived.Test.YtphabdlcjpfbaaaRvX
import Derived.Test.YtphabdlcjpfbaaaRwB
import Derived.Test.YtphabdlcjpfbaaaRwI
import Derived.Test.YtphabdlcjpfbaaaLaw
import Derived.Deep.DeepHandedRow
set_option linter.unusedSimpArgs false
set_option linter.unusedVariables false
namespace Go.Proofs.Ytphabdlcjpfbaaa
open Go.RowKit Go.WideShapes Go.ChangeShapes
theorem cellsint : Try.prog.cellsOf 3 = 1 := by kernel_rfl
theorem wf_i64' {x : Int} (h : (Lit.int .i64 x).wf = true) : -9223372036854775808 ≤ x ∧ x ≤ 9223372036854775807 := by
  simp [Lit.wf, IntKind.min, IntKind.max, IntKind.bits, IntKind.signed] at h
  omega
theorem own : ownKnob Try.prog.godebug = none := by kernel_rfl
theorem laidOut : laidOutB Try.prog = true := by kernel_rfl
theorem revOf_W (l : List Int) : RevW (revOf l) := revW_of (by unfold encE; rw [if_pos (revOf_valid l)]; rfl)
theorem revsL_W {l : List Int} {k : Nat} : ∀ r ∈ revsL l k, RevW r ∧ r.ops.length ≤ 4 := fun r hr => by
  obtain ⟨i, _, rfl⟩ := List.mem_map.1 hr
  exact ⟨revOf_W _, revOf_many _⟩
theorem revOf_seq (l : List Int) : (revOf l).seq ≤ 4 := by
  have h := atI_bd l 1 4 (by decide)
  show 1 + atI l 1 4 ≤ 4
  omega
theorem revsL_seq {l : List Int} {k : Nat} : ∀ r ∈ revsL l k, r.seq ≤ 4 := fun r hr => by
  obtain ⟨i, _, rfl⟩ := List.mem_map.1 hr
  exact revOf_seq _
section
variable {P : Program} {w : World}
/-- append to a slice literal without elements makes a new row, or leaves it. -/
theorem wpList_app0 {ops : Array Oper} {rest : List Oper} {o : Oper} {a : Act} {Q : Exit → Act → World → Prop} (hgd : o.guard = none) (s x : Operand) (t : TypeId)
    (ho : o.op = .call { callee := .builtin .append, args := #[s, x], argTypes := #[t, t] })
    (base : Nat) (e : TypeId) (i : TypeInfo) (z : Value) (size bytes : Nat) (ht : P.underlying t = some (.slice e)) (hi : P.info? e = some i) (hz : i.zero = some z)
    (hsize : i.size = size) (hby : i.bytes = bytes) (hzs : z.cells.size = size) (hsz : 0 < size)
    (g : Nat) (hs : a.eval s = .slice (some ⟨g, 0, none⟩) 0 0) (hown : w.ownsRow base e size (.slice (some ⟨g, 0, none⟩) 0 0) 0 [])
    (B : Nat) (Ad : Option Addr) (m cd : Nat) (news : List Value) (hx : a.eval x = .slice Ad m cd) (hnil : m = 0 → Ad = none) (hr : RdN w B size Ad m news) (h1 : ∀ u ∈ news, u.oneCell' = true)
    (h63 : m ≤ maxLen) (hbytes : m * bytes ≤ 140737488355328) (hbase : base ≤ w.heap.size)
    (h : ∀ A' c' w', w'.ownsRow base e size (.slice A' m c') m news → Ext w w' → wpList P ops Q rest (a.put o.dst (.slice A' m c')) w') : wpList P ops Q (o :: rest) a w := by
  refine wpList_plain hgd fun K hK => ?_
  have key : ∃ A' c' w', (Builtin.append_ #[t, t] o.type #[.slice (some ⟨g, 0, none⟩) 0 0, .slice Ad m cd]).run P w = .ok (.slice A' m c') w' ∧ w'.ownsRow base e size (.slice A' m c') m news ∧ Ext w w' := by
    rcases Nat.eq_zero_or_pos m with h0 | h0
    · have hA := hnil h0
      subst hA h0
      have hn : news = [] := List.eq_nil_of_length_eq_zero (by simpa using hr.1)
      subst hn
      exact ⟨some ⟨g, 0, none⟩, 0, w, by simp [Builtin.append_, run_underlying ht, sizeOf, typeInfo, hi, Builtin.lenOf, Builtin.firstCells, storeCells], hown, Ext.refl w⟩
    · obtain ⟨b, p, rfl, _, hc⟩ := hr.2 h0
      have hnews : ∀ j u, news[j]? = some u → w.cell? ((⟨b, p, none⟩ : Addr).add j) = some u := fun j u hu => by rw [Addr.add_mid]; exact hc j u hu
      obtain ⟨A', c', w', hrun, h2, _⟩ := run_app (P := P) base t o.type e i z size bytes ht hi hz hsize hby hzs hsz (some ⟨g, 0, none⟩) 0 0 [] hown B (some ⟨b, p, none⟩) m cd news hr h1 (by omega) (by rw [Nat.zero_add]; exact hbytes) hbase
      rw [Nat.zero_add, List.nil_append] at h2
      rw [Nat.zero_add] at hrun
      refine ⟨A', c', w', hrun, h2, ?_⟩
      unfold maxLen at h63
      have hr2 := run_append_grow (P := P) w t o.type e i z ht hi hz ⟨g, 0, none⟩ 0 0 [] (by simp) (fun j v hv => by simp at hv) ⟨b, p, none⟩ m cd news (by rw [hsize]; exact hr.1) hnews (by omega) (by omega) (growslice_fits (by omega) (by rw [hby, Nat.zero_add]; exact hbytes))
      rw [hrun] at hr2
      injection hr2 with _ hw
      rw [hw]
      exact ((Ext.refl w).drew).alloc _
  obtain ⟨A', c', w', hrun, h2, h3⟩ := key
  unfold Oper.wp execOp
  simp only [ho, resolve, invoke, builtin, Sem.run_bind, Sem.run_pure, Result.andThen_ok, List.map_toArray, List.map_cons, List.map_nil, hs, hx, hrun]
  exact hK _ _ (h A' c' w' h2 h3)
end
/-- What is known of reviews that Standing gives. -/
theorem stand_mem {K All : List RX} {n : Int} (h : (K.map (·.r)).Perm (((frsF All).1.filter (stdB n (frsF All).1)).map (·.r))) : (∀ x ∈ K, ∃ y ∈ All, y.r = x.r) ∧ K.length ≤ All.length := by
  constructor
  · intro x hx
    have h1 := h.subset (List.mem_map.2 ⟨x, hx, rfl⟩)
    obtain ⟨y, hy, e⟩ := List.mem_map.1 h1
    exact ⟨y, frsF_mem All y (List.mem_filter.1 hy).1, e⟩
  · have h1 := h.length_eq
    rw [List.length_map, List.length_map] at h1
    have h2 := List.length_filter_le (stdB n (frsF All).1) (frsF All).1
    have h3 := frsF_len All
    omega
theorem stand_left (All L : List RX) (WX : RX) (nn : Int) (K0 : List RX) (A : Option Addr) (n c : Nat) (w : World) (hA : StrK All) (hq : ∀ x ∈ All, x.r.seq < WX.r.seq) (hwd : WX.r.wd = true) (hF : (frsF L).1.Perm (All ++ [WX]))
    (h0 : (K0.map (·.r)).Perm (((frsF All).1.filter (stdB nn (frsF All).1)).map (·.r))) (s0 : SortK K0) (hl : RdN w w.heap.size 22 A n (rxsC L)) (hL : ∀ x ∈ L, RXV w x) (hAW : ∀ x ∈ All, RevW x.r) (hWW : RevW WX.r) (hn : n ≤ 1000) (ha : All.length ≤ 10) (hin : ∀ x ∈ L, x ∈ All ++ [WX]) :
    Calls Try.prog 24 #[.slice A n c, .int .i64 nn] w fun e w' => (∃ (K : List RX) (A' : Option Addr) (c' : Nat), e = .returned (.slice A' K.length c') ∧ RdN w' w'.heap.size 22 A' K.length (rxsC K) ∧ (∀ x ∈ K, RXV w' x ∧ RevW x.r) ∧ K.map (·.r) = (K0.filter fun x => leftB nn WX.r x.r).map (·.r) ∧ K.length ≤ 12) ∧ Ext w w' := by
  have hW : ∀ x ∈ All ++ [WX], RevW x.r := fun x hx => by
    rcases List.mem_append.1 hx with h | h
    · exact hAW x h
    · rw [List.mem_singleton.1 h]; exact hWW
  refine (standing_big L nn A n c w hl (fun x hx => ⟨hL x hx, (hW x (hin x hx)).shop, (hW x (hin x hx)).seq⟩) hn (by rw [hF.length_eq, List.length_append, List.length_singleton]; omega)).mono ?_
  rintro e w' ⟨⟨K, A', c', he, hr, hv, hp, hs⟩, hE⟩
  have hm := withdrawn_plain All WX nn hA hq hwd K0 K _ hF h0 s0 hp hs
  refine ⟨⟨K, A', c', he, hr, fun x hx => ⟨hv x hx, ?_⟩, hm, ?_⟩, hE⟩
  · have h1 : x.r ∈ K.map (·.r) := List.mem_map.2 ⟨x, hx, rfl⟩
    rw [hm] at h1
    obtain ⟨y, hy, e1⟩ := List.mem_map.1 h1
    obtain ⟨z, hz, e2⟩ := (stand_mem h0).1 y (List.mem_filter.1 hy).1
    rw [← e1, ← e2]
    exact hAW z hz
  · have h1 := congrArg List.length hm
    rw [List.length_map, List.length_map] at h1
    have h2 := List.length_filter_le (fun x : RX => leftB nn WX.r x.r) K0
    have h3 := (stand_mem h0).2
    omega
theorem new2 (W : World) (cs : List Value) (h : cs.length = 44) : RdN (W.alloc (.cells cs.toArray 27)) (W.alloc (.cells cs.toArray 27)).heap.size 22 (some ⟨W.heap.size, 0, none⟩) 2 cs := by
  have h1 := RdN.fresh (W := W) (e := 27) cs _ W.heap.size 22 2 rfl rfl (by omega)
  exact h1.more (by simp)
theorem lit0 (W : World) {b : Nat} (h : b ≤ W.heap.size) : (W.alloc (.cells #[] 27)).ownsRow b 27 22 (.slice (some ⟨W.heap.size, 0, none⟩) 0 0) 0 [] := by
  have h := World.ownsRow_lit (base := b) (size := 22) (e := 27) W #[] 0 h (by decide) (by simp)
  simpa using h
theorem new1 (W : World) {X : Array Value} (cs : List Value) (h : cs.length = 22) (hX : X = cs.toArray := by first | rfl | (rw [fold_set]; rw [HW22.out]; rfl)) : RdN (W.alloc (.cells X 27)) (W.alloc (.cells X 27)).heap.size 22 (some ⟨W.heap.size, 0, none⟩) 1 cs := by
  subst hX
  have h1 := RdN.fresh (W := W) (e := 27) cs _ W.heap.size 22 1 rfl rfl (by omega)
  exact h1.more (by simp)
section
attribute [local go_sem ↓] wp_at_zero wp_at_succ
set_option maxHeartbeats 16000000 in
set_option maxRecDepth 100000 in
theorem walk_withdrawn (l l2 : List Int) (A B : Option Addr) (n c n2 c2 : Nat) (day : Int) (w : World) (hl : Rd w w.heap.size A n (l.map (Value.int .i64))) (hl2 : Rd w w.heap.size B n2 (l2.map (Value.int .i64))) (hwf : ∀ x ∈ l, -9223372036854775808 ≤ x ∧ x ≤ 9223372036854775807) (hwf2 : ∀ x ∈ l2, -9223372036854775808 ≤ x ∧ x ≤ 9223372036854775807) (hnc : n ≤ c) (hc : c ≤ 9223372036854775807) (hd : -9223372036854775808 ≤ day ∧ day ≤ 9223372036854775807) :
    Calls Try.prog 6 #[.slice A n c, .slice B n2 c2, .int .i64 day] w fun e w' => e = .returned (.bool true) ∧ Ext w w' := by
  obtain ⟨i0, hi, hz0, hz1, hz2⟩ := info_parts rv_info
  have HRV := Lib.hid (reviews_any l A n c w hl hwf hnc hc)
  have HRW : Hid (∀ W, Ext w W → Calls Try.prog 7 #[.slice B n2 c2] W fun e w' => (∃ A' n' c', e = .returned (.agg (revC (revOf l2) A' n' c').toArray) ∧ RevV w' (revOf l2) A' n' c') ∧ Ext W w') := Lib.hid (fun W hW => review_any l2 B n2 c2 W (hl2.ext' hW) hwf2)
  have HAD : Hid (∀ W, Calls Try.prog 17 #[.int .i64 day, .int .i64 12] W fun e w' => e = .returned (.int .i64 (aroI day 12)) ∧ W = w') := Lib.hid (fun W => around_any day 12 W hd.1 hd.2 (by decide) (by decide))
  have HWW := Lib.hid (revOf_W l2)
  have HWO := Lib.hid (revOf_many l2)
  obtain ⟨rw0, hrw⟩ : ∃ r, r = revOf l2 := ⟨_, rfl⟩
  rw [← hrw] at HRW HWW HWO
  obtain ⟨nn, hnn⟩ : ∃ x, x = aroI day 12 := ⟨_, rfl⟩
  rw [← hnn] at HAD
  clear hl hl2 hwf hwf2 hd hrw hnn
  have zz : ∀ W, (zeroValue 27).run Try.prog W = .ok (.agg Z0.toArray) W := fun W => by kernel_rfl
  go_enter Try.func6, Try.ntmps6
  go_upto_region 2 with (first
    | (go_at_call 22; (with_reducible refine HRV.out.mono ?_); rintro e w1 ⟨⟨M, A1, c1, rfl, ho1, hm1, hr1⟩, hE1⟩; have HO1 := Lib.hid ho1; have HM1 := Lib.hid hm1; have HR1 := Lib.hid hr1; have E1 := Lib.hid hE1; have hM10 : M.length ≤ 10 := (by have h := congrArg List.length hr1; rw [List.length_map] at h; unfold revsL cntR at h; rw [List.length_map, List.length_range] at h; omega); clear ho1 hm1 hr1 hE1; have HON := Lib.hid (once_any M A1 M.length c1 w1 (rdn_own HO1.out) (fun x hx => (HM1.out x hx).1.len) (by omega)))
    | (go_at_call 26; (with_reducible refine HON.out.mono ?_); rintro e w2 ⟨⟨A7, c7, rfl, ho2, hnil2⟩, hE2⟩; have HO2 := Lib.hid ho2; have HNIL := Lib.hid hnil2; have E12 := Lib.hid hE2; clear ho2 hnil2 hE2))
  have HQ : Hid (∀ x ∈ onceX M, x.r.seq ≤ 4) := Lib.hid (fun x hx => revsL_seq x.r (by rw [← HR1.out]; exact List.mem_map.2 ⟨x, onceX_mem M x hx, rfl⟩))
  have HAW : Hid (∀ x ∈ onceX M, RevW x.r) := Lib.hid (fun x hx => (revsL_W x.r (by rw [← HR1.out]; exact List.mem_map.2 ⟨x, onceX_mem M x hx, rfl⟩)).1)
  have HAV : Hid (∀ W, Ext w2 W → ∀ x ∈ onceX M, RXV W x) := Lib.hid (fun W hW x hx => (HM1.out x (onceX_mem M x hx)).1.ext (E12.out.next hW))
  have HSK := Lib.hid (onceX_all M).1
  have hk10 : (onceX M).length ≤ 10 := Nat.le_trans (onceX_len M) hM10
  have E2 : Hid (Ext w w2) := Lib.hid (E1.out.next E12.out)
  have HB12 : Hid (w1.heap.size ≤ w2.heap.size) := Lib.hid E12.out.size
  obtain ⟨All, hAll⟩ : ∃ L, L = onceX M := ⟨_, rfl⟩
  rw [← hAll] at HO2 HNIL HQ HAW HAV HSK hk10 ⊢
  obtain ⟨na, hna⟩ : ∃ k, k = All.length := ⟨_, rfl⟩
  have HAL := Lib.hid hna
  rw [← hna] at HO2 HNIL hk10 ⊢
  clear hAll hna hM10 HR1 HM1 HO1 HRV E1 E12
  go_upto_region 3 with (first
    | (go_at_call 7; (with_reducible refine (HRW.out w2 E2.out).mono ?_); rintro e w3 ⟨⟨A3, n3, c3, rfl, hv3⟩, hE3⟩; have V3 := Lib.hid hv3; have E23 := Lib.hid hE3; have L3 : Hid ((revC rw0 A3 n3 c3).length = 22) := Lib.hid (revC_len _ _ _ _ hv3.mean); clear hv3 hE3)
    | (refine wpList_store_freshw rfl 27 (.tmp 8) (.tmp 20) rfl w3.heap.size rfl Z0 (revC rw0 A3 n3 c3) 27 (by kernel_rfl) (by kernel_rfl) (info_rev.trans (congrArg some L3.out.symm)) (Eq.trans (b := 22) rfl L3.out.symm) (revC_one _ _ _ _) ?_; intro w4 hw4 hE4 hz4; have B4 := Lib.hid hw4; have E34 := Lib.hid hE4; clear hw4 hE4 hz4))
  obtain ⟨g8, hg8⟩ : ∃ g, g = w3.heap.size := ⟨_, rfl⟩
  rw [← hg8] at B4 ⊢
  have HG8 : Hid (w2.heap.size ≤ g8) := Lib.hid (by rw [hg8]; exact E23.out.size)
  have HGE := Lib.hid hg8
  clear hg8
  have c43 : w4.cell? ⟨g8, 3, none⟩ = some (.bool rw0.wd) := B4.out.cell 3
  have f43 := B4.out.frozen 3
  go_upto_region 4 with fail
  obtain ⟨w5, hw5⟩ : ∃ x, x = w4.setCell ⟨g8, 3, none⟩ (.bool true) := ⟨_, rfl⟩
  rw [← hw5]
  have B5 : Hid (Blk w5 g8 27 (revC { rw0 with wd := true } A3 n3 c3)) := Lib.hid (by rw [hw5]; exact B4.out.set 3 _)
  have K45 : Hid (Kept (fun b => b = g8) w4 w5) := Lib.hid (by rw [hw5]; exact Kept.setCell (F := fun b => b = g8) (p := ⟨g8, 3, none⟩) w4 rfl _)
  have c51 : w5.cell? ⟨g8, 1, none⟩ = some (.int .i64 rw0.seq) := B5.out.cell 1
  have f51 := B5.out.frozen 1
  clear hw5 c43 f43
  go_upto_region 5 with fail
  obtain ⟨w6, hw6⟩ : ∃ x, x = w5.setCell ⟨g8, 1, none⟩ (.int .i64 9) := ⟨_, rfl⟩
  rw [← hw6]
  have B6 : Hid (Blk w6 g8 27 (revC { rw0 with wd := true, seq := 9 } A3 n3 c3)) := Lib.hid (by rw [hw6]; exact B5.out.set 1 _)
  have K46 : Hid (Kept (fun b => b = g8) w4 w6) := Lib.hid (by rw [hw6]; exact K45.out.trans (Kept.setCell (F := fun b => b = g8) (p := ⟨g8, 1, none⟩) w5 rfl _))
  have E26 : Hid (Ext w2 w6) := Lib.hid (ext_kept (E23.out.next E34.out) K46.out (fun b hb => by rw [hb]; exact HG8.out))
  clear hw6 c51 f51 K45
  obtain ⟨Wr, hWr⟩ : ∃ r : Rev, r = { rw0 with wd := true, seq := 9 } := ⟨_, rfl⟩
  rw [← hWr] at B6
  have HWRW : Hid (RevW Wr) := Lib.hid (by rw [hWr]; exact ⟨HWW.out.shop, ⟨show (-9223372036854775808 : Int) ≤ 9 by decide, show (9 : Int) ≤ 9223372036854775807 by decide⟩, HWW.out.day, HWW.out.ops, HWW.out.sls, HWW.out.many⟩)
  have HWR : Hid (Wr.wd = true ∧ Wr.seq = 9) := Lib.hid (by rw [hWr]; exact ⟨rfl, rfl⟩)
  have HWV : Hid (∀ W, Ext w6 W → RXV W ⟨Wr, A3, n3, c3⟩) := Lib.hid (fun W hW => by
    have h3 : RXV w3 ⟨rw0, A3, n3, c3⟩ := V3.out
    have h4 := h3.ext E34.out
    have h6 := h4.kept K46.out (fun a h0 hA e => by
      have h1 := h3.in h0 hA
      rw [e, HGE.out] at h1
      exact Nat.lt_irrefl _ h1)
    rw [hWr]
    exact (⟨h6.row, h6.le, h6.cap, h6.few, h6.mean, h6.mbyt⟩ : RXV w6 ⟨{ rw0 with wd := true, seq := 9 }, A3, n3, c3⟩).ext hW)
  have HW22 : Hid ((rxC ⟨Wr, A3, n3, c3⟩).length = 22) := Lib.hid (HWV.out w6 (Ext.refl _)).len
  have HAV6 : Hid (∀ W, Ext w6 W → ∀ x ∈ All, RXV W x) := Lib.hid (fun W hW => HAV.out W (E26.out.next hW))
  have E6 : Hid (Ext w w6) := Lib.hid (E2.out.next E26.out)
  have HO6 : Hid (∀ W, Ext w6 W → RdN W W.heap.size 22 A7 na (rxsC All)) := Lib.hid (fun W hW => ((rdn_own HO2.out).below (E26.out.next hW) (Nat.le_refl _)).more (E26.out.next hW).size)
  have HCP := Lib.hid (slice_cap HO2.out)
  have hx22 := HW22.out
  clear hWr HAV V3 E23 E34 HWW K46 B4 B5 L3 HG8 HGE HRW HB12 E2 E26
  refine wp_region_flowF 5 ?FW5 (fun us => ?_) (by kernel_rfl) (by kernel_rfl) (fun a b => Ext a b) Ext.refl (fun h1 h2 => h1.next h2) (fun i v W => match i with
    | 0 => ∃ g : Nat, v = .slice (some ⟨g, 0, none⟩) 0 0 ∧ W.ownsRow w6.heap.size 27 22 (.slice (some ⟨g, 0, none⟩) 0 0) 0 []
    | 1 => v = .slice A7 na c7
    | 2 => ∃ (A4 : Option Addr) (c4 : Nat), v = .slice A4 na c4 ∧ W.ownsRow w6.heap.size 27 22 (.slice A4 na c4) na (rxsC All)
    | 3 => v = .agg (rxC ⟨Wr, A3, n3, c3⟩).toArray
    | 4 => ∃ g : Nat, v = .slice (some ⟨g, 0, none⟩) 1 1 ∧ RdN W W.heap.size 22 (some ⟨g, 0, none⟩) 1 (rxC ⟨Wr, A3, n3, c3⟩)
    | _ => True) ?_ ?_
  case refine_1 =>
    simp only [List.take_succ_cons, List.take_zero, flowAct, Nat.zero_add, Nat.reduceAdd, Act.put, List.setIfInBounds_toArray, List.set_cons_succ, List.set_cons_zero]
    rfl
  · simp only [List.take_succ_cons, List.take_zero, flowStepsF]
    refine ⟨?_, ?_, ?_, ?_, ?_, trivial⟩
    · intro us W K hE hd hK
      dsimp only at hK ⊢
      have HK := Lib.hid hK; have HE := Lib.hid hE
      clear hK hd hE
      go_wp2_with fail
      exact K_at (HK.out (.slice (some ⟨W.heap.size, 0, none⟩) 0 0) _ (fun W2 hW2 => ⟨W.heap.size, rfl, (Kept.of_ext (F := fun _ => False) hW2).own (lit0 W (sg_undrew HE.out).size) (fun _ _ h => h)⟩) ((Ext.refl W).alloc _)) (by kernel_rfl)
    · intro us W K hE hd hK
      dsimp only at hK ⊢
      have HK := Lib.hid hK; have HE := Lib.hid hE
      clear hK hd hE
      go_wp2_with fail
      exact K_at (HK.out (.slice A7 na c7) W (fun _ _ => rfl) (Ext.refl W)) (by kernel_rfl)
    · intro us W K hE hd hK
      obtain ⟨g0, d0, ho0⟩ := hd 0 (by kernel_rfl)
      have d1 := hd 1 (by kernel_rfl)
      have HRA := Lib.hid (HO6.out W (sg_undrew hE))
      have HO0 := Lib.hid ho0
      have HSW := Lib.hid ((sg_undrew hE)).size
      dsimp only at hK ⊢
      rw [d0, d1] at hK ⊢
      have HK := Lib.hid hK; have HE := Lib.hid hE
      clear hK hd hE d0 d1 ho0
      go_wp2_with (go_loud (at_builtin; refine wpList_app0 rfl (.tmp 23) (.tmp 24) 35 rfl w6.heap.size 27 i0 (.agg Z0.toArray) 22 88 Try.underlying35 hi hz0 hz1 hz2 rfl (by omega) g0 (by kernel_rfl) HO0.out W.heap.size A7 na c7 (rxsC All) (by kernel_rfl) (fun h => (HNIL.out h).1) HRA.out (rxs_one _) (by simp only [maxLen]; omega) (by omega) HSW.out ?_; intro A4 c4 w8 ho4 hB8))
      exact K_at (HK.out (.slice A4 na c4) w8 (fun W2 hW2 => ⟨A4, c4, rfl, (Kept.of_ext (F := fun _ => False) hW2).own ho4 (fun _ _ h => h)⟩) hB8) (by kernel_rfl)
    · intro us W K hE hd hK
      have BW := Lib.hid (B6.out.ext (sg_undrew hE))
      dsimp only at hK ⊢
      have HK := Lib.hid hK; have HE := Lib.hid hE
      clear hK hd hE
      go_wp2_with (go_loud (refine wpList_load_want (by rfl) 27 (.tmp 8) rfl g8 (by kernel_rfl) BW.out Try.underlying27 rfl (info_rev.trans (congrArg some HW22.out.symm)) ?_))
      exact K_at (HK.out (.agg (rxC ⟨Wr, A3, n3, c3⟩).toArray) W (fun _ _ => rfl) (Ext.refl W)) (by kernel_rfl)
    · intro us W K hE hd hK
      have d3 := hd 3 (by kernel_rfl)
      dsimp only at hK ⊢
      rw [d3] at hK ⊢
      have HK := Lib.hid hK; have HE := Lib.hid hE
      clear hK hd hE d3
      go_wp2_with fail
      exact K_at (HK.out (.slice (some ⟨W.heap.size, 0, none⟩) 1 1) _ (fun W2 hW2 => ⟨W.heap.size, rfl, ((new1 W (rxC ⟨Wr, A3, n3, c3⟩) HW22.out).below hW2 (Nat.le_refl _)).more hW2.size⟩) ((Ext.refl W).alloc _)) (by kernel_rfl)
  · intro us W hE hd
    try dsimp only
    obtain ⟨A4, c4, d2, ho4⟩ := hd 2 (by decide)
    obtain ⟨g1, d4, hr1⟩ := hd 4 (by decide)
    simp only [List.drop_succ_cons, List.drop_zero]
    rw [d2, d4]
    have EW := Lib.hid (sg_undrew hE)
    have HO4 := Lib.hid ho4; have HR1 := Lib.hid hr1
    clear hd hE d2 d4 ho4 hr1
    have HSW := Lib.hid EW.out.size
    go_upto_region 6 with (go_loud (first | (at_builtin; refine wpList_app rfl (.tmp 25) (.tmp 27) 35 rfl w6.heap.size 27 i0 (.agg Z0.toArray) 22 88 Try.underlying35 hi hz0 hz1 hz2 rfl (by omega) A4 na c4 _ (by kernel_rfl) HO4.out W.heap.size (some ⟨g1, 0, none⟩) 1 1 (rxC ⟨Wr, A3, n3, c3⟩) (by kernel_rfl) HR1.out (rxC_one _) (by simp only [maxLen]; omega) (by omega) HSW.out ?_; intro A9 c9 w7 ho7 hg7; have HO7 := Lib.hid ho7; have E67 : Hid (Ext w6 w7) := Lib.hid (below_app EW.out hg7 HO4.out (Nat.le_refl _) HSW.out); clear ho7 hg7)))
    obtain ⟨WX, hWX⟩ : ∃ x : RX, x = ⟨Wr, A3, n3, c3⟩ := ⟨_, rfl⟩
    have HWS : Hid (rxsC [WX] = rxC ⟨Wr, A3, n3, c3⟩ ∧ rxC WX = rxC ⟨Wr, A3, n3, c3⟩) := Lib.hid (by rw [hWX]; exact ⟨by simp [rxsC], rfl⟩)
    have HWXW : Hid (WX.r.wd = true ∧ WX.r.seq = 9 ∧ RevW WX.r) := Lib.hid (by rw [hWX]; exact ⟨HWR.out.1, HWR.out.2, HWRW.out⟩)
    have HWXR : Hid (WX.r = Wr) := Lib.hid (by rw [hWX])
    have HMR : Hid (∀ W, Ext w7 W → RdN W W.heap.size 22 A9 (na + 1) (rxsC (All ++ [WX]))) := Lib.hid (fun W hW => by
      rw [rxsC_app, HWS.out.1]
      exact ((rdn_own HO7.out).below hW (Nat.le_refl _)).more hW.size)
    have HAV7 : Hid (∀ W, Ext w7 W → ∀ x ∈ All, RXV W x) := Lib.hid (fun W hW => HAV6.out W (E67.out.next hW))
    have HWV7 : Hid (∀ W, Ext w7 W → RXV W WX) := Lib.hid (fun W hW => by rw [hWX]; exact HWV.out W (E67.out.next hW))
    have HWV7b : Hid (∀ W, Ext w7 W → RXV W ⟨Wr, A3, n3, c3⟩) := Lib.hid (fun W hW => HWV.out W (E67.out.next hW))
    have HMV : Hid (∀ W, Ext w7 W → ∀ x ∈ All ++ [WX], RXV W x) := Lib.hid (fun W hW x hx => by
      rcases List.mem_append.1 hx with h | h
      · exact HAV7.out W hW x h
      · rw [List.mem_singleton.1 h]
        exact HWV7.out W hW)
    have HAR7 : Hid (∀ W, Ext w7 W → RdN W W.heap.size 22 A7 na (rxsC All)) := Lib.hid (fun W hW => HO6.out W (E67.out.next hW))
    have HS0 : Hid (Calls Try.prog 24 #[.slice A7 na c7, .int .i64 nn] w7 fun e w' => (∃ (M : List RX) (A' : Option Addr) (c' : Nat), e = .returned (.slice A' M.length c') ∧ RdN w' w'.heap.size 22 A' M.length (rxsC M) ∧ (∀ x ∈ M, RXV w' x) ∧ (M.map (·.r)).Perm (((frsF All).1.filter (stdB nn (frsF All).1)).map (·.r)) ∧ SortK M) ∧ Ext w7 w') := Lib.hid (standing_any All nn A7 na c7 w7 (HAR7.out w7 (Ext.refl _)) (fun x hx => ⟨HAV7.out w7 (Ext.refl _) x hx, (HAW.out x hx).shop, (HAW.out x hx).seq⟩) (by omega))
    have B7 := Lib.hid (B6.out.ext E67.out)
    have E7 : Hid (Ext w w7) := Lib.hid (E6.out.next E67.out)
    clear hWX HWR HWRW HWV HAV6 HO6 HO7 HO4 HR1 HO2 B6 E6 E67 EW HSW HCP
    go_upto_region 8 with (first
      | (go_at_call 17; (with_reducible refine (HAD.out _).mono ?_); rintro e w9 ⟨rfl, rfl⟩)
      | (go_at_call 24; (with_reducible refine HS0.out.mono ?_); rintro e w8 ⟨⟨K0, A11, c11, rfl, hr8, hv8, hp8, hs8⟩, hE8⟩; have HR8 := Lib.hid hr8; have HV8 := Lib.hid hv8; have HP8 := Lib.hid hp8; have HS8 := Lib.hid hs8; have E78 := Lib.hid hE8; clear hr8 hv8 hp8 hs8 hE8))
    have HK0 : Hid (∀ x ∈ K0, RevW x.r ∧ x.r.seq < 9) := Lib.hid (fun x hx => by
      obtain ⟨y, hy, e⟩ := (stand_mem HP8.out).1 x hx
      rw [← e]
      exact ⟨HAW.out y hy, by have := HQ.out y hy; omega⟩)
    have hk0 : K0.length ≤ 10 := by
      have h1 := (stand_mem HP8.out).2
      have h2 := HAL.out
      omega
    obtain ⟨k0, hk⟩ : ∃ k, k = K0.length := ⟨_, rfl⟩
    have HKL := Lib.hid hk
    rw [← hk] at HR8 hk0 ⊢
    clear hk HS0 HAD
    obtain ⟨ff, hff⟩ : ∃ f : RX → Bool, f = fun x => leftB nn WX.r x.r := ⟨_, rfl⟩
    have HFF := Lib.hid hff
    clear hff
    have HK22 : Hid (∀ x ∈ K0, (rxC x).length = 22) := Lib.hid (fun x hx => (HV8.out x hx).len)
    have B8 := Lib.hid (B7.out.ext E78.out)
    have HWW8 : Hid (∀ W, Ext w8 W → RXV W ⟨Wr, A3, n3, c3⟩) := Lib.hid (fun W hW => HWV7b.out W (E78.out.next hW))
    have hx22 := HW22.out
    go_wp2_with fail
    go_loopw [12, 13] (fun s12 s13 wr => ∃ (t k c' : Nat) (A' : Option Addr), s13 = .int .i64 (t : Int) ∧ t ≤ k0 ∧ s12 = .slice A' k c' ∧ k = ((K0.take t).filter ff).length ∧ wr.ownsRow w8.heap.size 27 22 (.slice A' k c') k (rxsC ((K0.take t).filter ff)) ∧ Ext w8 wr) (fun _ s13 _ => k0 - (intOf s13).toNat)
    case atStart => exact ⟨0, 0, 0, none, rfl, Nat.zero_le _, rfl, rfl, World.ownsRow_nil _ _ _ _, Ext.refl _⟩
    case round =>
      obtain ⟨t, k, c', A', rfl, ht, rfl, hk, hown, hE⟩ := hrel
      have EO := Lib.hid hE; have HOR := Lib.hid hown; have HWL := Lib.hid hk
      clear hE hown
      obtain ⟨wo, rfl⟩ : ∃ x : World, x = wr := ⟨_, rfl⟩
      have hk12 : k ≤ 10 := by
        rw [hk]
        have := filt_len (L := K0) t ff
        have := HKL.out
        omega
      clear hk
      by_cases hlt : t < k0
      · obtain ⟨b, p, rfl, hb, hrg⟩ := rx_at HR8.out HK22.out (by omega)
        obtain ⟨x, hx⟩ : ∃ x, K0[t]? = some x := ⟨_, List.getElem?_eq_getElem (by rw [← HKL.out]; exact hlt)⟩
        have hxm := List.mem_of_getElem? hx
        have HRX : Hid (∀ W, Ext w8 W → W.rangeAt b (p + t * 22) (rxC x)) := Lib.hid (fun W hW => hrg W (fun a ha => hW.cell ha) t x hx)
        have HXC : Hid (∀ W, Ext w8 W → W.cell? ⟨b, p + t * 22, none⟩ = some (.int .i64 x.r.shop) ∧ W.cell? ⟨b, p + t * 22 + 4, none⟩ = some (.slice x.A x.n x.c)) := Lib.hid (fun W hW => ⟨HRX.out W hW 0 _ rfl, HRX.out W hW 4 _ rfl⟩)
        have HX22 := Lib.hid (HK22.out x hxm)
        have HFS : Hid ((K0.take (t + 1)).filter ff = (K0.take t).filter ff ++ (if ff x then [x] else [])) := Lib.hid (filt_snoc _ hx)
        have HTN : Hid (t + 1 ≤ k0) := Lib.hid hlt
        have HFX : Hid (ff x = (decide (nn < Wr.day) || (!decide (x.r.shop = Wr.shop) || !meetB x.r.ops Wr.ops))) := Lib.hid (by rw [HFF.out, HWXR.out]; rfl)
        have HCN : Hid (∀ W, Ext w8 W → ∀ k, Calls Try.prog 27 #[.slice x.A x.n x.c, .slice A3 n3 c3] (W.drewN k) fun e w' => e = .returned (.bool (meetB x.r.ops Wr.ops)) ∧ ∃ m, w' = (W.drewN k).drewN m) := Lib.hid (fun W hW k => by
          have h1 := (HV8.out x hxm).ext (hW.drewN k)
          have h2 := HWW8.out (W.drewN k) (hW.drewN k)
          exact has_any x.r.ops Wr.ops x.A A3 x.n x.c n3 c3 (W.drewN k) h1.row h2.row h1.few h2.few)
        obtain ⟨mb, hmb⟩ : ∃ z, z = meetB x.r.ops Wr.ops := ⟨_, rfl⟩
        rw [← hmb] at HCN HFX
        obtain ⟨xs, hxs⟩ : ∃ z, z = x.r.shop := ⟨_, rfl⟩
        rw [← hxs] at HXC HFX
        obtain ⟨ws, hws⟩ : ∃ z, z = Wr.shop := ⟨_, rfl⟩
        rw [← hws] at HFX
        obtain ⟨wy, hwy⟩ : ∃ z, z = Wr.day := ⟨_, rfl⟩
        rw [← hwy] at HFX
        have HWC : Hid (∀ W, Ext w8 W → W.cell? ⟨g8, 0, none⟩ = some (.int .i64 ws) ∧ W.cell? ⟨g8, 2, none⟩ = some (.int .i64 wy) ∧ W.cell? ⟨g8, 4, none⟩ = some (.slice A3 n3 c3)) := Lib.hid (fun W hW => by
          rw [hws, hwy]
          have h := B8.out.ext hW
          exact ⟨h.cell 0, h.cell 2, h.cell 4⟩)
        obtain ⟨fx, hfx⟩ : ∃ z, z = ff x := ⟨_, rfl⟩
        rw [← hfx] at HFX HFS
        clear hmb hxs hws hwy hfx hx hxm hrg hb
        have HC0 := Lib.hid (HCN.out wo EO.out)
        go_upto_region 12 with fail
        go_cut [64] from 40 to 63 (fun s64 wx => s64 = .bool fx ∧ Ext wo wx)
        case first =>
          obtain ⟨cx0, cx4⟩ := HXC.out wo EO.out
          obtain ⟨cw0, cw2, cw4⟩ := HWC.out wo EO.out
          by_cases h1 : nn < wy
          · have h1' : decide (nn < wy) = true := decide_eq_true h1
            have HH : Hid (fx = true) := Lib.hid (by rw [HFX.out, h1']; rfl)
            clear h1
            go_wp2_with fail
            go_quiet ((go_at_call 27; exact Calls.quiet_of (HC0.out _)))
            generalize hW : (World.drewN _ _) = W
            have EW : Hid (Ext wo W) := Lib.hid (by rw [← hW]; exact (Ext.refl wo).drewN _)
            clear hW
            go_wp2_with fail
            go_meet
            exact ⟨by rw [HH.out], EW.out⟩
          · have h1' : decide (nn < wy) = false := decide_eq_false h1
            clear h1
            by_cases h2 : xs = ws
            · have h2' : (xs == ws) = true := beq_iff_eq.2 h2
              have h2'' : (xs != ws) = false := by simp [h2]
              have HH : Hid (fx = !mb) := Lib.hid (by rw [HFX.out, h1', decide_eq_true h2]; rfl)
              clear h2
              go_wp2_with fail
              go_quiet ((go_at_call 27; exact Calls.quiet_of (HC0.out _)))
              generalize hW : (World.drewN _ _) = W
              have EW : Hid (Ext wo W) := Lib.hid (by rw [← hW]; exact (Ext.refl wo).drewN _)
              clear hW
              go_wp2_with fail
              go_meet
              exact ⟨by rw [HH.out], EW.out⟩
            · have h2' : (xs == ws) = false := by simpa using h2
              have h2'' : (xs != ws) = true := by simpa using h2
              have HH : Hid (fx = true) := Lib.hid (by rw [HFX.out, h1', decide_eq_false h2]; rfl)
              clear h2
              go_wp2_with fail
              go_quiet ((go_at_call 27; exact Calls.quiet_of (HC0.out _)))
              generalize hW : (World.drewN _ _) = W
              have EW : Hid (Ext wo W) := Lib.hid (by rw [← hW]; exact (Ext.refl wo).drewN _)
              clear hW
              go_wp2_with fail
              go_meet
              exact ⟨by rw [HH.out], EW.out⟩
        case rest =>
          obtain ⟨rfl, hE⟩ := hcut
          have EC := Lib.hid (EO.out.next hE)
          have HOC : Hid (wc.ownsRow w8.heap.size 27 22 (.slice A' k c') k (rxsC ((K0.take t).filter ff))) := Lib.hid ((Kept.of_ext (F := fun _ => False) hE).own HOR.out (fun _ _ h => h))
          clear hE
          obtain ⟨wi, rfl⟩ : ∃ x : World, x = wc := ⟨_, rfl⟩
          have HRI := Lib.hid (HRX.out wi EC.out)
          have hy22 := HX22.out
          cases fx
          · have HF2 : Hid ((K0.take (t + 1)).filter ff = (K0.take t).filter ff) := Lib.hid (by rw [HFS.out, if_neg (by decide), List.append_nil])
            go_wp2_with fail
            go_roundw
            case rel => exact ⟨t + 1, k, c', A', by go_num, HTN.out, rfl, by rw [HF2.out]; exact HWL.out, by rw [HF2.out]; exact HOC.out, EC.out⟩
            case measure => have := HTN.out; simp [intOf]; omega
          · have HF2 : Hid ((K0.take (t + 1)).filter ff = (K0.take t).filter ff ++ [x]) := Lib.hid (by rw [HFS.out, if_pos rfl])
            go_wp2_with (first
              | (refine wpList_load_mid rfl 27 (.tmp 68) rfl b (p + t * 22) (by kernel_rfl) (rxC x) _ HRI.out Try.underlying27 rfl (info_rev.trans (congrArg some HX22.out.symm)) ?_)
              | (at_builtin; refine wpList_app rfl (.tmp 65) (.tmp 70) 35 rfl w8.heap.size 27 i0 (.agg Z0.toArray) 22 88 Try.underlying35 hi hz0 hz1 hz2 rfl (by omega) A' k c' _ (by kernel_rfl) (HOC.out.alloc _) (wi.heap.size + 1) _ 1 1 (rxC x) (by kernel_rfl) (RdN.fresh (rxC x) _ _ 22 1 (by rw [fold_set]; exact HX22.out) rfl HX22.out) (rxC_one x) (by simp only [maxLen]; omega) (by omega) (by have := EC.out.size; simp; omega) ?_; intro A77 c77 w77 ho77 hg77; have HO77 := Lib.hid ho77; have E77 : Hid (Ext w8 w77) := Lib.hid (below_app (EC.out.alloc _) hg77 (HOC.out.alloc _) (Nat.le_refl _) (by rw [World.size_alloc]; have := EC.out.size; omega)); clear ho77 hg77))
            go_roundw
            case rel =>
              refine ⟨t + 1, k + 1, c77, A77, by go_num, HTN.out, rfl, by rw [HF2.out, List.length_append, ← HWL.out]; rfl, ?_, E77.out⟩
              rw [HF2.out, rxsC_app, show rxsC [x] = rxC x by simp [rxsC]]
              exact HO77.out
            case measure => have := HTN.out; simp [intOf]; omega
      · obtain rfl : t = k0 := by omega
        have HALL : Hid (K0.take t = K0) := Lib.hid (List.take_of_length_le (by rw [← HKL.out]; exact Nat.le_refl _))
        rw [HALL.out] at HOR HWL
        obtain ⟨w9, rfl⟩ : ∃ x : World, x = wo := ⟨_, rfl⟩
        have HWR9 : Hid (∀ W, Ext w9 W → RdN W W.heap.size 22 A' k (rxsC (K0.filter ff))) := Lib.hid (fun W hW => ((rdn_own HOR.out).below hW (Nat.le_refl _)).more hW.size)
        have HKV9 : Hid (∀ W, Ext w9 W → ∀ x ∈ K0.filter ff, RXV W x) := Lib.hid (fun W hW x hx => (HV8.out x (List.mem_filter.1 hx).1).ext (EO.out.next hW))
        have HMR9 : Hid (∀ W, Ext w9 W → RdN W W.heap.size 22 A9 (na + 1) (rxsC (All ++ [WX]))) := Lib.hid (fun W hW => HMR.out W (E78.out.next (EO.out.next hW)))
        have HMV9 : Hid (∀ W, Ext w9 W → ∀ x ∈ All ++ [WX], RXV W x) := Lib.hid (fun W hW => HMV.out W (E78.out.next (EO.out.next hW)))
        have HM22 : Hid (∀ x ∈ All ++ [WX], (rxC x).length = 22) := Lib.hid (fun x hx => (HMV9.out w9 (Ext.refl _) x hx).len)
        have HST : Hid (∀ (L : List RX) (A : Option Addr) (len c : Nat) (W : World), Ext w9 W → (frsF L).1.Perm (All ++ [WX]) → (∀ x ∈ L, x ∈ All ++ [WX]) → RdN W W.heap.size 22 A len (rxsC L) → len ≤ 1000 → Calls Try.prog 24 #[.slice A len c, .int .i64 nn] W fun e w' => (∃ (K : List RX) (A' : Option Addr) (c' : Nat), e = .returned (.slice A' K.length c') ∧ RdN w' w'.heap.size 22 A' K.length (rxsC K) ∧ (∀ x ∈ K, RXV w' x ∧ RevW x.r) ∧ K.map (·.r) = (K0.filter ff).map (·.r) ∧ K.length ≤ 12) ∧ Ext W w') := Lib.hid (fun L A len c W hW hF hin hR hlen => by
          rw [HFF.out]
          exact stand_left All L WX nn K0 A len c W HSK.out (fun x hx => by have h1 := HQ.out x hx; have h2 := HWXW.out.2.1; omega) HWXW.out.1 hF HP8.out HS8.out hR (fun x hx => HMV9.out W hW x (hin x hx)) HAW.out HWXW.out.2.2 hlen (by rw [← HAL.out]; exact hk10) hin)
        have E9 : Hid (Ext w w9) := Lib.hid (E7.out.next (E78.out.next EO.out))
        have HFW : Hid ((frsF (weave WX ((All ++ [WX]).reverse))).1 = (All ++ [WX]).reverse) := Lib.hid (frsF_weave WX (strK_nodup HSK.out) (fun x hx e => by
          have h1 := HQ.out x hx
          have h2 := HWXW.out.2.1
          unfold keyX at e
          rw [Prod.mk.injEq] at e
          omega))
        have HFM : Hid ((frsF (All ++ [WX])).1 = All ++ [WX]) := Lib.hid (frsF_distinct (by
          rw [List.map_append, List.nodup_append]
          refine ⟨strK_nodup HSK.out, by simp, fun a ha b hb e => ?_⟩
          obtain ⟨x, hx, e1⟩ := List.mem_map.1 ha
          rw [List.map_singleton, List.mem_singleton] at hb
          have h1 := HQ.out x hx
          have h2 := HWXW.out.2.1
          rw [hb] at e
          rw [← e1] at e
          unfold keyX at e
          rw [Prod.mk.injEq] at e
          omega))
        have hlen9 : (All ++ [WX]).length = na + 1 := by rw [List.length_append, ← HAL.out]; rfl
        have HLEN := Lib.hid hlen9
        obtain ⟨b9, p9, hA9, hb9, hrg9⟩ := rx_at (HMR9.out w9 (Ext.refl _)) HM22.out (by omega)
        subst hA9
        have HRU0 : Hid (∀ (u : Nat) (x : RX), (All ++ [WX])[u]? = some x → ∀ W, Ext w9 W → W.rangeAt b9 (p9 + u * 22) (rxC x)) := Lib.hid (fun u x hx W hW => hrg9 W (fun a ha => hW.cell ha) u x hx)
        have HRN : Hid (∀ W, Ext w9 W → W.rangeAt b9 (p9 + na * 22) (rxC WX)) := Lib.hid (HRU0.out na WX (by rw [List.getElem?_append_right (by rw [← HAL.out]; exact Nat.le_refl _), ← HAL.out, Nat.sub_self]; rfl))
        have HWX22 : Hid ((rxC WX).length = 22) := Lib.hid (HM22.out WX (List.mem_append_right _ (List.mem_singleton.2 rfl)))
        clear hb9 hrg9 hlen9 HOR HV8 HMR HMV HAV7 HWV7 HWV7b HAR7 HP8 HS8 HR8 B7 B8 E7 HKL HK22 HWW8 HK0 HQ HAW HSK HNIL hx22 hlt
        go_wp2_with fail
        go_loopw [14, 15] (fun s14 s15 wr => ∃ (j v c5 : Nat) (A5 : Option Addr) (z : Int), s15 = .int .i64 z ∧ z = (v : Int) - 1 ∧ j + v = na + 1 ∧ s14 = .slice A5 (2 * j) c5 ∧ wr.ownsRow w9.heap.size 27 22 (.slice A5 (2 * j) c5) (2 * j) (rxsC (weave WX ((All ++ [WX]).reverse.take j))) ∧ Ext w9 wr) (fun _ s15 _ => (intOf s15 + 1).toNat)
        case atStart => exact ⟨0, na + 1, 0, none, _, rfl, by omega, by omega, rfl, World.ownsRow_nil _ _ _ _, Ext.refl _⟩
        case round =>
          obtain ⟨j, v, c5, A5, z, rfl, hz, hjv, rfl, hown, hE⟩ := hrel
          have EI := Lib.hid hE; have HOJ := Lib.hid hown
          clear hE hown
          obtain ⟨wi, rfl⟩ : ∃ x : World, x = wr := ⟨_, rfl⟩
          rcases Nat.eq_zero_or_pos v with hv0 | hv0
          · obtain rfl : z = -1 := by omega
            obtain rfl : j = na + 1 := by omega
            have HWT : Hid ((All ++ [WX]).reverse.take (na + 1) = (All ++ [WX]).reverse) := Lib.hid (List.take_of_length_le (by rw [List.length_reverse, HLEN.out]; exact Nat.le_refl _))
            rw [HWT.out] at HOJ
            have HSM := Lib.hid (HST.out (All ++ [WX]) (some ⟨b9, p9, none⟩) (na + 1) c9 wi EI.out (by rw [HFM.out]) (fun x hx => hx) (HMR9.out wi EI.out) (by omega))
            have HSO : Hid (∀ W, Ext wi W → Calls Try.prog 24 #[.slice A5 (2 * (na + 1)) c5, .int .i64 nn] W fun e w' => (∃ (K : List RX) (A' : Option Addr) (c' : Nat), e = .returned (.slice A' K.length c') ∧ RdN w' w'.heap.size 22 A' K.length (rxsC K) ∧ (∀ x ∈ K, RXV w' x ∧ RevW x.r) ∧ K.map (·.r) = (K0.filter ff).map (·.r) ∧ K.length ≤ 12) ∧ Ext W w') := Lib.hid (fun W hW => HST.out (weave WX ((All ++ [WX]).reverse)) A5 (2 * (na + 1)) c5 W (EI.out.next hW) (by rw [HFW.out]; exact List.reverse_perm _) (fun x hx => by
              unfold weave at hx
              obtain ⟨y, hy, hxy⟩ := List.mem_flatMap.1 hx
              rcases List.mem_cons.1 hxy with h | h
              · rw [h]; exact List.mem_reverse.1 hy
              · rw [List.mem_singleton.1 h]; exact List.mem_append_right _ (List.mem_singleton.2 rfl)) (((rdn_own HOJ.out).below hW (Nat.le_refl _)).more hW.size) (by omega))
            have HSAM : Hid (∀ (K : List RX) (A1 : Option Addr) (c1 : Nat) (W : World), Ext wi W → RdN W W.heap.size 22 A1 K.length (rxsC K) → (∀ x ∈ K, RXV W x ∧ RevW x.r) → K.map (·.r) = (K0.filter ff).map (·.r) → K.length ≤ 12 → Calls Try.prog 23 #[.slice A1 K.length c1, .slice A' k c'] W fun e w' => e = .returned (.bool true) ∧ Ext W w') := Lib.hid (fun K A1 c1 W hW hr hv hm hl => sameall_any K (K0.filter ff) A1 A' K.length c1 k c' W hr (HWR9.out W (EI.out.next hW)) hv (HKV9.out W (EI.out.next hW)) hm (Nat.le_trans hl (by decide)))
            have EX : Hid (Ext wi wi) := Lib.hid (Ext.refl _)
            clear hz hjv HOJ HST HMR9 HWT
            go_wp2_with (first
              | (go_at_call 24; (with_reducible refine HSM.out.mono ?_); rintro e w11 ⟨⟨K1, A21, c21, rfl, hr, hv, hm, hl⟩, hE⟩; have HS1 := Lib.hid (HSAM.out K1 A21 c21 w11 hE hr hv hm hl); have E11 := Lib.hid hE; clear hr hv hm hl hE)
              | (go_at_call 23; (with_reducible refine HS1.out.mono ?_); rintro e w12 ⟨rfl, hE⟩; have E12 := Lib.hid (E11.out.next hE); clear hE)
              | (go_at_call 24; (with_reducible refine (HSO.out w12 E12.out).mono ?_); rintro e w13 ⟨⟨K2, A22, c22, rfl, hr, hv, hm, hl⟩, hE⟩; have HS2 := Lib.hid (HSAM.out K2 A22 c22 w13 (E12.out.next hE) hr hv hm hl); have E13 := Lib.hid (E12.out.next hE); clear hr hv hm hl hE)
              | (go_at_call 23; (with_reducible refine HS2.out.mono ?_); rintro e w14 ⟨rfl, hE⟩; have E14 := Lib.hid (E13.out.next hE); clear hE)
              | (go_at_call 11; (with_reducible refine (lives_any _).mono ?_); rintro e w15 ⟨rfl, hE⟩; have E15 := Lib.hid (E14.out.next hE); clear hE))
            go_ret
            exact ⟨rfl, E9.out.next (EI.out.next E15.out)⟩
          · obtain ⟨u, rfl⟩ : ∃ u, v = u + 1 := ⟨v - 1, by omega⟩
            obtain rfl : z = (u : Int) := by omega
            have hun : u ≤ na := by omega
            obtain ⟨x, hx⟩ : ∃ x, (All ++ [WX])[u]? = some x := ⟨_, List.getElem?_eq_getElem (by rw [HLEN.out]; omega)⟩
            have HRU := Lib.hid (HRU0.out u x hx)
            have HRU22 : Hid ((rxC x).length = 22) := Lib.hid (HM22.out x (List.mem_of_getElem? hx))
            have HRN22 := HWX22
            have HJU : Hid (j + 1 + u = na + 1) := Lib.hid (by omega)
            have HWE : Hid (rxsC (weave WX ((All ++ [WX]).reverse.take (j + 1))) = rxsC (weave WX ((All ++ [WX]).reverse.take j)) ++ (rxC x ++ rxC WX)) := Lib.hid (by
              have e : (All ++ [WX]).reverse[j]? = some x := by
                rw [List.getElem?_reverse (by rw [HLEN.out]; omega), HLEN.out, show na + 1 - 1 - j = u by omega]
                exact hx
              rw [take_snoc e]
              unfold weave
              rw [List.flatMap_append, rxsC_app]
              simp [rxsC])
            have HXX1 : Hid (∀ v ∈ rxC x ++ rxC WX, v.oneCell' = true) := Lib.hid (fun v hv => by
              rcases List.mem_append.1 hv with h | h
              · exact rxC_one _ v h
              · exact rxC_one _ v h)
            have hj11 : j ≤ 11 := by omega
            have hna0 : decide ((na : Int) < (na : Int) + 1) = true := decide_eq_true (by omega)
            clear hx hz hjv hv0
            go_upto_region 18 with fail
            refine wp_region_flowF 12 ?FW18 (fun us => ?_) (by kernel_rfl) (by kernel_rfl) (fun a b => Ext a b) Ext.refl (fun h1 h2 => h1.next h2) (fun i v W => match i with
              | 0 => v = .slice A5 (2 * j) c5
              | 1 => v = .slice (some ⟨b9, p9, none⟩) (na + 1) c9
              | 2 => v = .int .i64 (u : Int)
              | 3 => v = .pointer (some ⟨b9, p9 + u * 22, none⟩)
              | 4 => v = .agg (rxC x).toArray
              | 5 => v = .slice (some ⟨b9, p9, none⟩) (na + 1) c9
              | 6 => v = .slice (some ⟨b9, p9, none⟩) (na + 1) c9
              | 7 => v = .int .i64 ((na : Int) + 1)
              | 8 => v = .int .i64 (na : Int)
              | 9 => v = .pointer (some ⟨b9, p9 + na * 22, none⟩)
              | 10 => v = .agg (rxC WX).toArray
              | 11 => ∃ g : Nat, v = .slice (some ⟨g, 0, none⟩) 2 2 ∧ RdN W W.heap.size 22 (some ⟨g, 0, none⟩) 2 (rxC x ++ rxC WX)
              | _ => True) ?_ ?_
            case refine_1 =>
              simp only [List.take_succ_cons, List.take_zero, flowAct, Nat.zero_add, Nat.reduceAdd, Act.put, List.setIfInBounds_toArray, List.set_cons_succ, List.set_cons_zero]
              rfl
            · simp only [List.take_succ_cons, List.take_zero, flowStepsF]
              refine ⟨?_, ?_, ?_, ?_, ?_, ?_, ?_, ?_, ?_, ?_, ?_, ?_, trivial⟩
              · intro us W K hE hd hK
                dsimp only at hK ⊢
                have HK := Lib.hid hK; have HE := Lib.hid hE
                clear hK hd hE
                go_wp2_with fail
                exact K_at (HK.out (.slice A5 (2 * j) c5) W (fun _ _ => rfl) (Ext.refl W)) (by kernel_rfl)
              · intro us W K hE hd hK
                dsimp only at hK ⊢
                have HK := Lib.hid hK; have HE := Lib.hid hE
                clear hK hd hE
                go_wp2_with fail
                exact K_at (HK.out (.slice (some ⟨b9, p9, none⟩) (na + 1) c9) W (fun _ _ => rfl) (Ext.refl W)) (by kernel_rfl)
              · intro us W K hE hd hK
                dsimp only at hK ⊢
                have HK := Lib.hid hK; have HE := Lib.hid hE
                clear hK hd hE
                go_wp2_with fail
                exact K_at (HK.out (.int .i64 (u : Int)) W (fun _ _ => rfl) (Ext.refl W)) (by kernel_rfl)
              · intro us W K hE hd hK
                have d1 := hd 1 (by kernel_rfl)
                have d2 := hd 2 (by kernel_rfl)
                dsimp only at hK ⊢
                rw [d1, d2] at hK ⊢
                have HK := Lib.hid hK; have HE := Lib.hid hE
                clear hK hd hE d1 d2
                go_wp2_with fail
                exact K_at (HK.out (.pointer (some ⟨b9, p9 + u * 22, none⟩)) W (fun _ _ => rfl) (Ext.refl W)) (by kernel_rfl)
              · intro us W K hE hd hK
                have d3 := hd 3 (by kernel_rfl)
                have HRW := Lib.hid (HRU.out W (EI.out.next (sg_undrew hE)))
                dsimp only at hK ⊢
                rw [d3] at hK ⊢
                have HK := Lib.hid hK; have HE := Lib.hid hE
                clear hK hd hE d3
                go_wp2_with (go_loud (refine wpList_midw (by rfl) 27 (.tmp 82) rfl b9 (p9 + u * 22) rfl (rxC x) HRW.out Try.underlying27 rfl (info_rev.trans (congrArg some HRU22.out.symm)) ?_))
                exact K_at (HK.out (.agg (rxC x).toArray) W (fun _ _ => rfl) (Ext.refl W)) (by kernel_rfl)
              · intro us W K hE hd hK
                dsimp only at hK ⊢
                have HK := Lib.hid hK; have HE := Lib.hid hE
                clear hK hd hE
                go_wp2_with fail
                exact K_at (HK.out (.slice (some ⟨b9, p9, none⟩) (na + 1) c9) W (fun _ _ => rfl) (Ext.refl W)) (by kernel_rfl)
              · intro us W K hE hd hK
                dsimp only at hK ⊢
                have HK := Lib.hid hK; have HE := Lib.hid hE
                clear hK hd hE
                go_wp2_with fail
                exact K_at (HK.out (.slice (some ⟨b9, p9, none⟩) (na + 1) c9) W (fun _ _ => rfl) (Ext.refl W)) (by kernel_rfl)
              · intro us W K hE hd hK
                have d6 := hd 6 (by kernel_rfl)
                dsimp only at hK ⊢
                rw [d6] at hK ⊢
                have HK := Lib.hid hK; have HE := Lib.hid hE
                clear hK hd hE d6
                go_wp2_with fail
                exact K_at (HK.out (.int .i64 ((na : Int) + 1)) W (fun _ _ => rfl) (Ext.refl W)) (by kernel_rfl)
              · intro us W K hE hd hK
                have d7 := hd 7 (by kernel_rfl)
                dsimp only at hK ⊢
                rw [d7] at hK ⊢
                have HK := Lib.hid hK; have HE := Lib.hid hE
                clear hK hd hE d7
                go_wp2_with fail
                exact K_at (HK.out (.int .i64 (na : Int)) W (fun _ _ => rfl) (Ext.refl W)) (by kernel_rfl)
              · intro us W K hE hd hK
                have d5 := hd 5 (by kernel_rfl)
                have d8 := hd 8 (by kernel_rfl)
                dsimp only at hK ⊢
                rw [d5, d8] at hK ⊢
                have HK := Lib.hid hK; have HE := Lib.hid hE
                clear hK hd hE d5 d8
                go_wp2_with fail
                exact K_at (HK.out (.pointer (some ⟨b9, p9 + na * 22, none⟩)) W (fun _ _ => rfl) (Ext.refl W)) (by kernel_rfl)
              · intro us W K hE hd hK
                have d9 := hd 9 (by kernel_rfl)
                have HRW := Lib.hid (HRN.out W (EI.out.next (sg_undrew hE)))
                dsimp only at hK ⊢
                rw [d9] at hK ⊢
                have HK := Lib.hid hK; have HE := Lib.hid hE
                clear hK hd hE d9
                go_wp2_with (go_loud (refine wpList_midw (by rfl) 27 (.tmp 88) rfl b9 (p9 + na * 22) rfl (rxC WX) HRW.out Try.underlying27 rfl (info_rev.trans (congrArg some HRN22.out.symm)) ?_))
                exact K_at (HK.out (.agg (rxC WX).toArray) W (fun _ _ => rfl) (Ext.refl W)) (by kernel_rfl)
              · intro us W K hE hd hK
                have d4 := hd 4 (by kernel_rfl)
                have d10 := hd 10 (by kernel_rfl)
                dsimp only at hK ⊢
                rw [d4, d10] at hK ⊢
                have HK := Lib.hid hK; have HE := Lib.hid hE
                clear hK hd hE d4 d10
                go_wp2_with (go_loud (refine wpList_buildSlice_want (by rfl) 35 27 2 _ rfl _ (by kernel_rfl) Try.underlying35 (rxC x ++ rxC WX) (built2 _ _ HRU22.out HRN22.out) ?_))
                exact K_at (HK.out (.slice (some ⟨W.heap.size, 0, none⟩) 2 2) _ (fun W2 hW2 => ⟨W.heap.size, rfl, ((new2 W (rxC x ++ rxC WX) (by rw [List.length_append, HRU22.out, HRN22.out])).below hW2 (Nat.le_refl _)).more hW2.size⟩) ((Ext.refl W).alloc _)) (by kernel_rfl)
            · intro us W hE hd
              try dsimp only
              obtain ⟨g1, d11, hr1⟩ := hd 11 (by decide)
              have d0 := hd 0 (by decide)
              simp only [List.drop_succ_cons, List.drop_zero]
              rw [d11, d0]
              have EW := Lib.hid (EI.out.next (sg_undrew hE))
              have HOW : Hid (W.ownsRow w9.heap.size 27 22 (.slice A5 (2 * j) c5) (2 * j) (rxsC (weave WX ((All ++ [WX]).reverse.take j)))) := Lib.hid ((Kept.of_ext (F := fun _ => False) (sg_undrew hE)).own HOJ.out (fun _ _ h => h))
              have HR1 := Lib.hid hr1
              clear hd hE d11 d0 hr1
              have HSW := Lib.hid EW.out.size
              go_wp2_with (go_loud (first | (at_builtin; refine wpList_app rfl (.tmp 79) (.tmp 90) 35 rfl w9.heap.size 27 i0 (.agg Z0.toArray) 22 88 Try.underlying35 hi hz0 hz1 hz2 rfl (by omega) A5 (2 * j) c5 _ (by kernel_rfl) HOW.out W.heap.size (some ⟨g1, 0, none⟩) 2 2 (rxC x ++ rxC WX) (by kernel_rfl) HR1.out HXX1.out (by simp only [maxLen]; omega) (by omega) HSW.out ?_; intro A77 c77 w77 ho77 hg77; have HO77 := Lib.hid ho77; have E77 : Hid (Ext w9 w77) := Lib.hid (below_app EW.out hg77 HOW.out (Nat.le_refl _) HSW.out); clear ho77 hg77)))
              refine ⟨⟨j + 1, u, c77, A77, (u : Int) - 1, rfl, rfl, HJU.out, rfl, ?_, E77.out⟩, by simp [intOf]⟩
              rw [HWE.out]
              exact HO77.out
end
namespace fnReviewWithdrawn
theorem params_reviewWithdrawn : (Try.f6.params.toList.all fun t => Try.prog.readableRec t && decide (t < Try.prog.types.size)) = true := by kernel_rfl
set_option maxRecDepth 100000 in
theorem contract (H : Type) (enc : TypeId × Value → H) (W : World) (base : Nat) (args : Array Value) (ds gs : List (DataW H)) (before : List MemPlace)
    (hval : ∀ (j : Nat) t v, Try.f6.params[j]? = some t → args[j]? = some v → Value.okWide Try.prog W .any base t v)
    (hW : DataW.Whole enc Try.prog Try.f6.params.toList Rows.reviewWithdrawnSpec.vars false W args.toList ds gs before) :
    Calls Try.prog 6 args W fun e W' => ∃ v, e = .returned v ∧ Rows.reviewWithdrawnSpec.post enc Try.prog Try.f6 false true false false W args v W' := by
  have hW' := hW
  obtain ⟨p, q, hA0, _, _, _, _⟩ := hW
  have hA : DataW.TrodAll enc Try.prog W 0 (fun _ => true) true Try.f6.params.toList args.toList ds p := hA0
  rw [Try.params6] at hA hval
  obtain ⟨v0, vs0, d0, ds0, p0, q0, hargs, e0d, e0p, h0, r0⟩ := trodAll_cons hA
  obtain ⟨v1, vs1, d1, ds1, p1, q1, e1, e1d, e1p, h1, r1⟩ := trodAll_cons r0
  obtain ⟨v2, vs2, d2, ds2, p2, q2, e2, e2d, e2p, h2, r2⟩ := trodAll_cons r1
  obtain ⟨en1, en2, en3⟩ := trodAll_nil r2
  obtain rfl : args = #[v0, v1, v2] := by cases args; simp_all
  clear hA hA0
  obtain ⟨A, n, c, l, rfl, hR, hwf, hnc, hc⟩ := open_u8s Try.underlying22 Try.underlying3 cellsint (hval 0 _ v0 rfl rfl) h0
  obtain ⟨B, n2, c2, l2, rfl, hR2, hwf2, hnc2, hc2⟩ := open_u8s Try.underlying22 Try.underlying3 cellsint (hval 1 _ v1 rfl rfl) h1
  obtain ⟨z, rfl, _, _, hz⟩ := open_int Try.underlying3 (hval 2 _ v2 rfl rfl) h2
  refine (walk_withdrawn l l2 A B n c n2 c2 z W hR hR2 (fun x hx => wf_i64' (hwf x hx)) (fun x hx => wf_i64' (hwf2 x hx)) hnc hc (wf_i64' hz)).mono fun e W' ⟨he, hg⟩ => ⟨_, he, ?_⟩
  exact post_law hW' laidOut (params_ok params_reviewWithdrawn) 4 rfl Try.underlying4 rfl (fun ds h => by
    rw [Try.params6] at h
    match ds, h with
    | [_, _, _], _ => rfl) hg
noncomputable def laidWorld (os : Os) : World := World.holding Try.prog os ⟨#[], #[], []⟩
theorem reads (os : Os) {H : Type} (enc : TypeId × Value → H) : ∃ places, DataW.whole enc Try.prog ((laidWorld os).forCall (fun _ _ => 0) ⟨#[], #[.slice none 0 0, .slice none 0 0, .int .i64 0], []⟩).memory Try.f6.params.toList Rows.reviewWithdrawnSpec.vars false (#[.slice none 0 0, .slice none 0 0, .int .i64 0] : Array Value).toList 8 = some ([.nil, .nil, .lit (.int .i64 0)], [], places) :=
  ⟨[], by kernel_rfl⟩
set_option maxRecDepth 100000 in
theorem lifted (os : Os) (started : os.Started) (H : Type) (enc : TypeId × Value → H) (F : Stop.Interp) :
    ReturnsInHanded {} Try.checked os 6 .any ((OpenSpec.ofChange Rows.reviewWithdrawnSpec).preRow enc Try.prog Try.f6 Rows.reviewWithdrawnRow.domain false Rows.reviewWithdrawnRow.laid) (((OpenSpec.ofChange Rows.reviewWithdrawnSpec).at F).post enc Try.prog Try.f6 false true false false) := by
  obtain ⟨places, hx⟩ := reads os enc
  refine returnsInHanded_of_row (C := Try.checked) (s := OpenSpec.ofChange Rows.reviewWithdrawnSpec) own started (by kernel_rfl) Try.func6
    (witness_row_at (enc := enc) (C := Try.checked) false (laidWorld os) #[.slice none 0 0, .slice none 0 0, .int .i64 0] rfl (by kernel_rfl) (by kernel_rfl) (by kernel_rfl)
      (OpenSpec.preRow_of_cond 8 hx (by kernel_rfl) (fun k hk => by cases hk) (by kernel_rfl) (laidMet_nil _ _))) ?_
  intro W base args ds gs before hval hW _ _ _ hL _ _
  exact contract H enc W base args ds gs before hval hW
theorem said : Rows.ReviewWithdrawnSaid :=
  OpenClaim.holds_of_cond 6 Try.f6 rfl rfl rfl rfl rfl rfl rfl ⟨rfl, rfl, rfl, rfl, rfl⟩ rfl rfl rfl rfl rfl (by kernel_rfl) Try.func6 (by kernel_rfl)
    (of_decide_eq_true (by kernel_rfl)) (by unfold Func.isWrapper; first | (rw [if_pos (by decide +kernel)]; kernel_rfl) | (rw [if_neg (by decide +kernel)]; exact ⟨rfl, rfl⟩))
    (fun os started H enc _ F => by rw [OpenClaim.pre_eq_preRow]; exact lifted os started H enc F)
end fnReviewWithdrawn
end Go.Proofs.Ytphabdlcjpfbaaa
