/- The reference's Standing. Conditions: at most 12 reviews. -/
import Derived.Test.YtphabdlcjpfbaaaRwF
set_option linter.unusedSimpArgs false
set_option linter.unusedVariables false
namespace Go.Proofs.Ytphabdlcjpfbaaa
open Go.RowKit
attribute [local go_sem ↓] wp_at_zero wp_at_succ
theorem meet_comm (a b : List Rid) : meetB a b = meetB b a := by
  unfold meetB
  rw [Bool.eq_iff_iff, List.any_eq_true, List.any_eq_true]
  constructor
  · rintro ⟨x, hx, h⟩
    rw [decide_eq_true_iff] at h
    exact ⟨x, h, decide_eq_true hx⟩
  · rintro ⟨x, hx, h⟩
    rw [decide_eq_true_iff] at h
    exact ⟨x, h, decide_eq_true hx⟩
/-- Has one of the first ones withdrawn it? -/
def goneT (day : Int) (L : List RX) (r : Rev) (u : Nat) : Bool := (L.take u).any fun y => wdB day y.r r
theorem goneT_succ (day : Int) {L : List RX} (r : Rev) {u : Nat} {y : RX} (h : L[u]? = some y) : goneT day L r (u + 1) = (goneT day L r u || wdB day y.r r) := by
  unfold goneT
  rw [take_snoc h, List.any_append]
  simp
theorem goneT_all (day : Int) {L : List RX} (r : Rev) {u : Nat} (h : L.length ≤ u) : goneT day L r u = goneB day L r := by
  unfold goneT goneB
  rw [List.take_of_length_le h]
def std0 (day : Int) (x : RX) : Bool := !x.r.wd && decide (x.r.day ≤ day)
theorem std_of (day : Int) (L : List RX) (x : RX) : stdB day L x = (std0 day x && !goneB day L x.r) := by
  unfold stdB std0
  rw [Bool.and_assoc]
theorem filt_snoc {L : List RX} {t : Nat} {x : RX} (f : RX → Bool) (h : L[t]? = some x) : (L.take (t + 1)).filter f = (L.take t).filter f ++ (if f x then [x] else []) := by
  rw [take_snoc h, List.filter_append, List.filter_cons, List.filter_nil]
theorem filt_len {L : List RX} (t : Nat) (f : RX → Bool) : ((L.take t).filter f).length ≤ L.length := by
  have := List.length_filter_le f (L.take t)
  rw [List.length_take] at this
  omega
set_option maxHeartbeats 16000000 in
set_option maxRecDepth 100000 in
theorem rstanding_any (L : List RX) (day : Int) (A : Option Addr) (n c : Nat) (w : World) (hl : RdN w w.heap.size 22 A n (rxsC L)) (hL : ∀ x ∈ L, RXV w x) (hn : n ≤ 12) :
    Calls Try.prog 25 #[.slice A n c, .int .i64 day] w fun e w' => (∃ (A' : Option Addr) (c' : Nat), e = .returned (.slice A' (standX day L).length c') ∧ RdN w' w'.heap.size 22 A' (standX day L).length (rxsC (standX day L))) ∧ Ext w w' := by
  obtain ⟨i0, hi, hz0, hz1, hz2⟩ := info_parts rv_info
  have HO := Lib.hid (once_any L A n c w hl (fun x hx => (hL x hx).len) hn)
  have HLN := Lib.hid (rx_n hl (fun x hx => (hL x hx).len))
  have HGV : Hid (∀ x ∈ onceX L, RXV w x) := Lib.hid (fun x hx => hL x (onceX_mem L x hx))
  have hm12 : (onceX L).length ≤ 12 := by
    have := onceX_len L
    have := HLN.out
    omega
  unfold standX
  obtain ⟨G, hG⟩ : ∃ G, G = onceX L := ⟨_, rfl⟩
  rw [← hG] at HO HGV hm12 ⊢
  obtain ⟨m, hm⟩ : ∃ m, m = G.length := ⟨_, rfl⟩
  rw [← hm] at HO hm12
  have HML := Lib.hid hm
  clear hl hL hG hm HLN
  go_enter Try.func25, Try.ntmps25
  go_upto_region 2 with (go_at_call 26; (with_reducible refine HO.out.mono ?_); rintro e w1 ⟨⟨A1, c1, rfl, ho1, hnil1⟩, hE1⟩; have HOW := Lib.hid ho1; have HNIL := Lib.hid hnil1; have E1 := Lib.hid hE1; clear ho1 hnil1 hE1)
  clear HO
  have HG22 : Hid (∀ y ∈ G, (rxC y).length = 22) := Lib.hid (fun y hy => (HGV.out y hy).len)
  have HG1 : Hid (∀ W, Ext w1 W → ∀ y ∈ G, RXV W y) := Lib.hid (fun W hW y hy => (HGV.out y hy).ext (E1.out.next hW))
  go_wp2_with fail
  go_loopw [6, 7, 8, 9, 10] (fun s6 s7 _ _ _ wr => ∃ (t k c' : Nat) (A' : Option Addr), s7 = .int .i64 (t : Int) ∧ t ≤ m ∧ s6 = .slice A' k c' ∧ k = ((G.take t).filter (stdB day G)).length ∧ wr.ownsRow w1.heap.size 27 22 (.slice A' k c') k (rxsC ((G.take t).filter (stdB day G))) ∧ Ext w1 wr) (fun _ s7 _ _ _ _ => m - (intOf s7).toNat)
  case atStart => exact ⟨0, 0, 0, none, rfl, Nat.zero_le _, rfl, rfl, World.ownsRow_nil _ _ _ _, Ext.refl _⟩
  case round =>
    obtain ⟨t, k, c', A', rfl, ht, rfl, hk, hown, hE⟩ := hrel
    have EO := Lib.hid hE; have HOR := Lib.hid hown; have HKL := Lib.hid hk
    clear hE hown
    obtain ⟨wo, rfl⟩ : ∃ x : World, x = wr := ⟨_, rfl⟩
    have hk12 : k ≤ 12 := by
      rw [hk]
      have := filt_len (L := G) t (stdB day G)
      have := HML.out
      omega
    clear hk
    by_cases hlt : t < m
    · obtain ⟨g, rfl, hg1, hg2⟩ := own_nil HOW.out (by omega)
      obtain ⟨x, hx⟩ : ∃ x, G[t]? = some x := ⟨_, List.getElem?_eq_getElem (by rw [← HML.out]; exact hlt)⟩
      have HXM : Hid (x ∈ G) := Lib.hid (List.mem_of_getElem? hx)
      have HX22 := Lib.hid (HG22.out x HXM.out)
      have HRG : Hid (∀ (j : Nat) (y : RX) (W : World), G[j]? = some y → Ext w1 W → W.rangeAt g (j * 22) (rxC y)) := Lib.hid (fun j y W hy hW => by
        have hj := (List.getElem?_eq_some_iff.1 hy).1
        obtain ⟨b, p, hA2, hb, hrg⟩ := rx_at (rdn_own HOW.out) HG22.out (by omega)
        simp only [Option.some.injEq, Addr.mk.injEq, and_true] at hA2
        obtain ⟨rfl, rfl⟩ := hA2
        have h := hrg W (fun a ha => hW.cell ha) j y hy
        rw [Nat.zero_add] at h
        exact h)
      have HFS : Hid ((G.take (t + 1)).filter (stdB day G) = (G.take t).filter (stdB day G) ++ (if stdB day G x then [x] else [])) := Lib.hid (filt_snoc _ hx)
      have HTN : Hid (t + 1 ≤ m) := Lib.hid hlt
      have HRX : Hid (∀ W, Ext w1 W → W.rangeAt g (t * 22) (rxC x)) := Lib.hid (fun W hW => HRG.out t x W hx hW)
      have HGY : Hid (∀ u : Nat, u < m → ∃ y, G[u]? = some y ∧ y ∈ G) := Lib.hid (fun u hu => ⟨_, List.getElem?_eq_getElem (by rw [← HML.out]; exact hu), List.getElem_mem _⟩)
      have HSO := Lib.hid (std_of day G x)
      have HGA : Hid (goneT day G x.r m = goneB day G x.r) := Lib.hid (goneT_all day x.r (by rw [HML.out]; exact Nat.le_refl _))
      have HGS : Hid (∀ (u : Nat) (y : RX), G[u]? = some y → goneT day G x.r (u + 1) = (goneT day G x.r u || wdB day y.r x.r)) := Lib.hid (fun u y hy => goneT_succ day x.r hy)
      have HG0 : Hid (goneT day G x.r 0 = false) := Lib.hid rfl
      obtain ⟨gt, hgt⟩ : ∃ f, f = goneT day G x.r := ⟨_, rfl⟩
      obtain ⟨st, hst⟩ : ∃ b, b = stdB day G x := ⟨_, rfl⟩
      obtain ⟨gb, hgb⟩ : ∃ b, b = goneB day G x.r := ⟨_, rfl⟩
      obtain ⟨s0, hs0⟩ : ∃ b, b = std0 day x := ⟨_, rfl⟩
      rw [← hgt] at HGA HGS HG0
      rw [← hgb] at HGA HSO
      rw [← hst] at HSO HFS
      rw [← hs0] at HSO
      obtain ⟨xd, hxd⟩ : ∃ z, z = x.r.day := ⟨_, rfl⟩
      obtain ⟨xw, hxw⟩ : ∃ z, z = x.r.wd := ⟨_, rfl⟩
      obtain ⟨xs, hxs⟩ : ∃ z, z = x.r.shop := ⟨_, rfl⟩
      obtain ⟨xq, hxq⟩ : ∃ z, z = x.r.seq := ⟨_, rfl⟩
      have HS0 : Hid (s0 = (!xw && decide (xd ≤ day))) := Lib.hid (by rw [hs0, hxd, hxw]; rfl)
      have HXC : Hid (∀ W, Ext w1 W → W.cell? ⟨g, t * 22, none⟩ = some (.int .i64 xs) ∧ W.cell? ⟨g, t * 22 + 1, none⟩ = some (.int .i64 xq) ∧ W.cell? ⟨g, t * 22 + 2, none⟩ = some (.int .i64 xd) ∧ W.cell? ⟨g, t * 22 + 3, none⟩ = some (.bool xw) ∧ W.cell? ⟨g, t * 22 + 4, none⟩ = some (.slice x.A x.n x.c)) := Lib.hid (fun W hW => by
        rw [hxd, hxw, hxs, hxq]
        have h := HRX.out W hW
        exact ⟨h 0 _ rfl, h 1 _ rfl, h 2 _ rfl, h 3 _ rfl, h 4 _ rfl⟩)
      have HWD : Hid (∀ y : RX, wdB day y.r x.r = (y.r.wd && (decide (y.r.shop = xs) && (decide (xq < y.r.seq) && (decide (y.r.day ≤ day) && meetB y.r.ops x.r.ops))))) := Lib.hid (fun y => by
        unfold wdB
        rw [hxs, hxq, meet_comm x.r.ops])
      clear hgt hst hgb hs0 hxd hxw hxs hxq hx hg1 hg2
      go_upto_region 6 with fail
      go_cut [8] from 19 to 33 (fun s8 wx => s8 = .bool s0 ∧ wo = wx)
      case first =>
        obtain ⟨_, _, cx2, cx3, _⟩ := HXC.out wo EO.out
        cases xw
        · by_cases h1 : xd ≤ day
          · have h1' : decide (xd ≤ day) = true := decide_eq_true h1
            have HE : Hid (s0 = true) := Lib.hid (by rw [HS0.out, h1']; rfl)
            go_wp2_with fail
            go_meet
            exact ⟨by rw [HE.out], rfl⟩
          · have h1' : decide (xd ≤ day) = false := decide_eq_false h1
            have HE : Hid (s0 = false) := Lib.hid (by rw [HS0.out, h1']; rfl)
            go_wp2_with fail
            go_meet
            exact ⟨by rw [HE.out], rfl⟩
        · have HE : Hid (s0 = false) := Lib.hid (by rw [HS0.out]; rfl)
          go_wp2_with fail
          go_meet
          exact ⟨by rw [HE.out], rfl⟩
      case rest =>
        obtain ⟨rfl, rfl⟩ := hcut
        go_wp2_with fail
        go_loopw [8, 9, 10] (fun s8 s9 _ wr => ∃ u : Nat, s9 = .int .i64 (u : Int) ∧ u ≤ m ∧ s8 = .bool (s0 && !gt u) ∧ Ext wo wr) (fun _ s9 _ _ => m - (intOf s9).toNat)
        case atStart => exact ⟨0, rfl, Nat.zero_le _, by rw [HG0.out]; cases s0 <;> rfl, Ext.refl _⟩
        case round =>
          obtain ⟨u, rfl, hu, rfl, hE⟩ := hrel
          have EI := Lib.hid hE
          clear hE
          obtain ⟨wi, rfl⟩ : ∃ x : World, x = wr := ⟨_, rfl⟩
          by_cases hlu : u < m
          · obtain ⟨y, hy, hyG⟩ := HGY.out u hlu
            have HR : Hid (wi.rangeAt g (u * 22) (rxC y)) := Lib.hid (HRG.out u y wi hy (EO.out.next EI.out))
            have HY22 := Lib.hid (HG22.out y hyG)
            have HUN : Hid (u + 1 ≤ m) := Lib.hid hlu
            have HGU := Lib.hid (HGS.out u y hy)
            have HWY := Lib.hid (HWD.out y)
            obtain ⟨wb, hwb⟩ : ∃ b, b = wdB day y.r x.r := ⟨_, rfl⟩
            rw [← hwb] at HGU HWY
            have HCM : Hid (∀ W, Ext wi W → ∀ k, Calls Try.prog 54 #[.slice y.A y.n y.c, .slice x.A x.n x.c] (W.drewN k) fun e w' => e = .returned (.bool (meetB y.r.ops x.r.ops)) ∧ ∃ m, w' = (W.drewN k).drewN m) := Lib.hid (fun W hW k => by
              have hx := HG1.out (W.drewN k) ((EO.out.next (EI.out.next hW)).drewN k) x HXM.out
              have hy := HG1.out (W.drewN k) ((EO.out.next (EI.out.next hW)).drewN k) y hyG
              exact common_any y.r.ops x.r.ops y.A x.A y.n y.c x.n x.c (W.drewN k) hy.row hx.row hy.few hx.few)
            obtain ⟨yr, yA, yn, yc⟩ := y
            obtain ⟨mb, hmb⟩ : ∃ b, b = meetB yr.ops x.r.ops := ⟨_, rfl⟩
            dsimp only at HCM HWY
            rw [← hmb] at HCM HWY
            obtain ⟨yd, hyd⟩ : ∃ z, z = yr.day := ⟨_, rfl⟩
            obtain ⟨yw, hyw⟩ : ∃ z, z = yr.wd := ⟨_, rfl⟩
            obtain ⟨ys, hys⟩ : ∃ z, z = yr.shop := ⟨_, rfl⟩
            obtain ⟨yq, hyq⟩ : ∃ z, z = yr.seq := ⟨_, rfl⟩
            rw [← hyd, ← hyw, ← hys, ← hyq] at HWY
            have HYC : Hid ((rxC ⟨yr, yA, yn, yc⟩)[0]? = some (.int .i64 ys) ∧ (rxC ⟨yr, yA, yn, yc⟩)[1]? = some (.int .i64 yq) ∧ (rxC ⟨yr, yA, yn, yc⟩)[2]? = some (.int .i64 yd) ∧ (rxC ⟨yr, yA, yn, yc⟩)[3]? = some (.bool yw) ∧ (rxC ⟨yr, yA, yn, yc⟩)[4]? = some (.slice yA yn yc)) := Lib.hid (by rw [hyd, hyw, hys, hyq]; exact ⟨rfl, rfl, rfl, rfl, rfl⟩)
            clear hwb hmb hyd hyw hys hyq hy hyG
            go_upto_region 11 with (first
              | (refine wpList_load_mid rfl 27 (.tmp 42) rfl g (u * 22) (by kernel_rfl) (rxC ⟨yr, yA, yn, yc⟩) _ HR.out Try.underlying27 rfl (info_rev.trans (congrArg some HY22.out.symm)) ?_)
              | (refine wpList_store_freshw rfl 27 (.tmp 10) (.tmp 43) rfl wi.heap.size rfl Z0 (rxC ⟨yr, yA, yn, yc⟩) 27 (by kernel_rfl) (by kernel_rfl) (info_rev.trans (congrArg some HY22.out.symm)) (Eq.trans (b := 22) rfl HY22.out.symm) (rxC_one _) ?_; intro w5 hw5 hE5 hz5; have B10 := Lib.hid hw5; have E5 := Lib.hid hE5; clear hw5 hE5 hz5))
            have EW5 : Hid (Ext w1 w5) := Lib.hid (EO.out.next (EI.out.next E5.out))
            have HCN := Lib.hid (HCM.out w5 E5.out)
            simp only [Act.put]
            go_cut [81] from 44 to 80 (fun s81 wx => s81 = .bool wb ∧ Ext w5 wx)
            case first =>
              have cy0 := (B10.out.cell 0).trans HYC.out.1
              have cy1 := (B10.out.cell 1).trans HYC.out.2.1
              have cy2 := (B10.out.cell 2).trans HYC.out.2.2.1
              have cy3 := (B10.out.cell 3).trans HYC.out.2.2.2.1
              have cy4 := (B10.out.cell 4).trans HYC.out.2.2.2.2
              obtain ⟨cx0, cx1, cx2, cx3, cx4⟩ := HXC.out w5 EW5.out
              clear cx2 cx3
              cases yw
              · have HH : Hid (wb = false) := Lib.hid (by rw [HWY.out]; rfl)
                go_wp2_with fail
                go_quiet ((go_at_call 54; exact Calls.quiet_of (HCN.out _)))
                generalize hW : (World.drewN _ _) = W
                have EW : Hid (Ext w5 W) := Lib.hid (by rw [← hW]; exact (Ext.refl w5).drewN _)
                clear hW
                go_wp2_with fail
                go_meet
                exact ⟨by rw [HH.out], EW.out⟩
              by_cases h1 : ys = xs
              · have h1' : (ys == xs) = true := beq_iff_eq.2 h1
                have h1'' := Lib.hid (decide_eq_true h1)
                clear h1
                by_cases h2 : xq < yq
                · have h2' : decide (xq < yq) = true := decide_eq_true h2
                  by_cases h3 : yd ≤ day
                  · have h3' : decide (yd ≤ day) = true := decide_eq_true h3
                    have HH : Hid (wb = mb) := Lib.hid (by rw [HWY.out, h1''.out, h2', h3']; rfl)
                    clear h2 h3
                    go_wp2_with fail
                    go_quiet ((go_at_call 54; exact Calls.quiet_of (HCN.out _)))
                    generalize hW : (World.drewN _ _) = W
                    have EW : Hid (Ext w5 W) := Lib.hid (by rw [← hW]; exact (Ext.refl w5).drewN _)
                    clear hW
                    go_wp2_with fail
                    go_meet
                    exact ⟨by rw [HH.out], EW.out⟩
                  · have h3' : decide (yd ≤ day) = false := decide_eq_false h3
                    have HH : Hid (wb = false) := Lib.hid (by rw [HWY.out, h1''.out, h2', h3']; rfl)
                    clear h2 h3
                    go_wp2_with fail
                    go_quiet ((go_at_call 54; exact Calls.quiet_of (HCN.out _)))
                    generalize hW : (World.drewN _ _) = W
                    have EW : Hid (Ext w5 W) := Lib.hid (by rw [← hW]; exact (Ext.refl w5).drewN _)
                    clear hW
                    go_wp2_with fail
                    go_meet
                    exact ⟨by rw [HH.out], EW.out⟩
                · have h2' : decide (xq < yq) = false := decide_eq_false h2
                  have HH : Hid (wb = false) := Lib.hid (by rw [HWY.out, h1''.out, h2']; rfl)
                  clear h2
                  go_wp2_with fail
                  go_quiet ((go_at_call 54; exact Calls.quiet_of (HCN.out _)))
                  generalize hW : (World.drewN _ _) = W
                  have EW : Hid (Ext w5 W) := Lib.hid (by rw [← hW]; exact (Ext.refl w5).drewN _)
                  clear hW
                  go_wp2_with fail
                  go_meet
                  exact ⟨by rw [HH.out], EW.out⟩
              · have h1' : (ys == xs) = false := by simpa using h1
                have h1'' := Lib.hid (decide_eq_false h1)
                have HH : Hid (wb = false) := Lib.hid (by rw [HWY.out, h1''.out]; rfl)
                clear h1
                go_wp2_with fail
                go_quiet ((go_at_call 54; exact Calls.quiet_of (HCN.out _)))
                generalize hW : (World.drewN _ _) = W
                have EW : Hid (Ext w5 W) := Lib.hid (by rw [← hW]; exact (Ext.refl w5).drewN _)
                clear hW
                go_wp2_with fail
                go_meet
                exact ⟨by rw [HH.out], EW.out⟩
            case rest =>
              obtain ⟨rfl, hE⟩ := hcut
              have EC := Lib.hid (EI.out.next (E5.out.next hE))
              clear hE
              cases wb
              · have HGU2 : Hid (gt (u + 1) = gt u) := Lib.hid (by rw [HGU.out, Bool.or_false])
                go_wp2_with fail
                go_roundw
                case rel => exact ⟨u + 1, by go_num, HUN.out, by rw [HGU2.out], EC.out⟩
                case measure => have := HUN.out; simp [intOf]; omega
              · have HGU2 : Hid (gt (u + 1) = true) := Lib.hid (by rw [HGU.out, Bool.or_true])
                go_wp2_with fail
                go_roundw
                case rel => exact ⟨u + 1, by go_num, HUN.out, by rw [HGU2.out]; cases s0 <;> rfl, EC.out⟩
                case measure => have := HUN.out; simp [intOf]; omega
          · obtain rfl : u = m := by omega
            rw [HGA.out, ← HSO.out]
            have HRI : Hid (wi.rangeAt g (t * 22) (rxC x)) := Lib.hid (HRX.out wi (EO.out.next EI.out))
            have HOI : Hid (wi.ownsRow w1.heap.size 27 22 (.slice A' k c') k (rxsC ((G.take t).filter (stdB day G)))) := Lib.hid ((Kept.of_ext (F := fun _ => False) EI.out).own HOR.out (fun _ _ h => h))
            have EWI : Hid (Ext w1 wi) := Lib.hid (EO.out.next EI.out)
            have hx22 := HX22.out
            cases st
            · have HF2 : Hid ((G.take (t + 1)).filter (stdB day G) = (G.take t).filter (stdB day G)) := Lib.hid (by rw [HFS.out, if_neg (by decide), List.append_nil])
              go_wp2_with fail
              go_roundw
              case rel => exact ⟨t + 1, k, c', A', by go_num, HTN.out, rfl, by rw [HF2.out]; exact HKL.out, by rw [HF2.out]; exact HOI.out, EWI.out⟩
              case measure => have := HTN.out; simp [intOf]; omega
            · have HF2 : Hid ((G.take (t + 1)).filter (stdB day G) = (G.take t).filter (stdB day G) ++ [x]) := Lib.hid (by rw [HFS.out, if_pos rfl])
              go_wp2_with (first
                | (refine wpList_load_mid rfl 27 (.tmp 86) rfl g (t * 22) (by kernel_rfl) (rxC x) _ HRI.out Try.underlying27 rfl (info_rev.trans (congrArg some HX22.out.symm)) ?_)
                | (at_builtin; refine wpList_app rfl (.tmp 83) (.tmp 88) 35 rfl w1.heap.size 27 i0 (.agg Z0.toArray) 22 88 Try.underlying35 hi hz0 hz1 hz2 rfl (by omega) A' k c' _ (by kernel_rfl) (HOI.out.alloc _) (wi.heap.size + 1) _ 1 1 (rxC x) (by kernel_rfl) (RdN.fresh (rxC x) _ _ 22 1 (by rw [fold_set]; exact HX22.out) rfl HX22.out) (rxC_one x) (by simp only [maxLen]; omega) (by omega) (by have := EWI.out.size; simp; omega) ?_; intro A7 c7 w7 ho7 hg7; have HO7 := Lib.hid ho7; have E7 : Hid (Ext w1 w7) := Lib.hid (below_app (EWI.out.alloc _) hg7 (HOI.out.alloc _) (Nat.le_refl _) (by rw [World.size_alloc]; have := EWI.out.size; omega)); clear ho7 hg7))
              go_roundw
              case rel =>
                refine ⟨t + 1, k + 1, c7, A7, by go_num, HTN.out, rfl, by rw [HF2.out, List.length_append, ← HKL.out]; rfl, ?_, E7.out⟩
                rw [HF2.out, rxsC_app, show rxsC [x] = rxC x by simp [rxsC]]
                exact HO7.out
              case measure => have := HTN.out; simp [intOf]; omega
    · obtain rfl : t = m := by omega
      have HALL : Hid (G.take t = G) := Lib.hid (List.take_of_length_le (by rw [← HML.out]; exact Nat.le_refl _))
      rw [HALL.out] at HOR HKL
      go_wp2_with fail
      go_ret
      exact ⟨⟨A', c', by rw [← HKL.out]; rfl, by rw [← HKL.out]; exact rdn_own HOR.out⟩, E1.out.next EO.out⟩
end Go.Proofs.Ytphabdlcjpfbaaa
