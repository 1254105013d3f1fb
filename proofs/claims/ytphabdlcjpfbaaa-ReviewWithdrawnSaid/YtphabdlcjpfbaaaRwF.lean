/- The reference's Once. Conditions: at most 12 reviews. -/
import Derived.Test.YtphabdlcjpfbaaaRwE
set_option linter.unusedSimpArgs false
set_option linter.unusedVariables false
namespace Go.Proofs.Ytphabdlcjpfbaaa
open Go.RowKit
attribute [local go_sem ↓] wp_at_zero wp_at_succ
theorem onceX_len (L : List RX) : (onceX L).length ≤ L.length := by
  have h := (onceX_all L).2.1.length_eq
  have h2 := frsF_len L
  omega
theorem onceX_mem (L : List RX) : ∀ x ∈ onceX L, x ∈ L := fun x hx => frsF_mem L x ((onceX_all L).2.1.mem_iff.1 hx)
/-- What a walk says of a position, of the element there. -/
theorem pos_lt {M : List RX} {y x : RX} {j : Nat} (hj : j < posX M y) (hx : M[j]? = some x) : ltK x.r y.r := by
  refine posX_take M y x (List.mem_of_getElem? (i := j) ?_)
  rw [List.getElem?_take, if_pos hj]
  exact hx
theorem hitB_at {M : List RX} {y x : RX} (hx : M[posX M y]? = some x) : hitB M y = decide (keyX x = keyX y) := by
  unfold hitB
  rw [hx]
theorem hitB_end {M : List RX} {y : RX} (hx : posX M y = M.length) : hitB M y = false := by
  unfold hitB
  rw [List.getElem?_eq_none (by omega)]
theorem insX_hit {M : List RX} {y : RX} (h : hitB M y = true) : insX M y = M := by unfold insX; rw [if_pos h]
theorem insX_new {M : List RX} {y : RX} (h : hitB M y = false) : rxsC (insX M y) = rxsC (M.take (posX M y)) ++ rxC y ++ rxsC (M.drop (posX M y)) := by
  unfold insX
  rw [h, if_neg (by decide), rxsC_app, show rxsC (y :: M.drop (posX M y)) = rxC y ++ rxsC (M.drop (posX M y)) from rfl, List.append_assoc]
theorem insX_newlen {M : List RX} {y : RX} (h : hitB M y = false) : (insX M y).length = M.length + 1 := by
  have := posX_le M y
  unfold insX
  rw [h, if_neg (by decide), List.length_append, List.length_cons, List.length_take, List.length_drop]
  omega
theorem rxs_sub {w : World} {b n : Nat} {L : List RX} (h : RdN w w.heap.size 22 (some ⟨b, 0, none⟩) n (rxsC L)) (hL : ∀ x ∈ L, (rxC x).length = 22) (k : Nat) (hk : k ≤ n) :
    RdN w w.heap.size 22 (some ⟨b, 0, none⟩) k (rxsC (L.take k)) ∧ RdN w w.heap.size 22 (some ⟨b, k * 22, none⟩) (n - k) (rxsC (L.drop k)) := by
  have hn := rx_n h hL
  have e : rxsC L = rxsC (L.take k) ++ rxsC (L.drop k) := by rw [← rxsC_app, List.take_append_drop]
  have l1 : (rxsC (L.take k)).length = k * 22 := by rw [rxsC_len _ (fun x hx => hL x (List.mem_of_mem_take hx)), List.length_take, Nat.min_eq_left (by omega)]
  have l2 : (rxsC (L.drop k)).length = (n - k) * 22 := by rw [rxsC_len _ (fun x hx => hL x (List.mem_of_mem_drop hx)), List.length_drop, hn]
  constructor
  · refine ⟨l1, fun h0 => ?_⟩
    obtain ⟨b', o, hA, hb, hc⟩ := h.2 (by omega)
    simp only [Option.some.injEq, Addr.mk.injEq, and_true] at hA
    obtain ⟨rfl, rfl⟩ := hA
    refine ⟨b, 0, rfl, hb, fun j u hu => hc j u ?_⟩
    rw [e, List.getElem?_append_left (List.getElem?_eq_some_iff.1 hu).1]
    exact hu
  · refine ⟨l2, fun h0 => ?_⟩
    obtain ⟨b', o, hA, hb, hc⟩ := h.2 (by omega)
    simp only [Option.some.injEq, Addr.mk.injEq, and_true] at hA
    obtain ⟨rfl, rfl⟩ := hA
    refine ⟨b, k * 22, rfl, hb, fun j u hu => ?_⟩
    have := hc (k * 22 + j) u (by
      rw [e, List.getElem?_append_right (by omega), l1, show k * 22 + j - k * 22 = j by omega]
      exact hu)
    rw [Nat.zero_add] at this
    exact this
theorem own_nil {w : World} {base : Nat} {e : TypeId} {size n c : Nat} {A : Option Addr} {xs : List Value} (h : w.ownsRow base e size (.slice A n c) n xs) (hs : 0 < n) : ∃ g, A = some ⟨g, 0, none⟩ ∧ base ≤ g ∧ g < w.heap.size := by
  obtain ⟨g, hA, h1, h2, _⟩ := own_blk h hs
  exact ⟨g, hA, h1, h2⟩
theorem rxs_one (L : List RX) : ∀ v ∈ rxsC L, v.oneCell' = true := fun v hv => by
  obtain ⟨x, _, hx⟩ := List.mem_flatMap.1 hv
  exact rxC_one x v hx
set_option maxHeartbeats 16000000 in
set_option maxRecDepth 100000 in
theorem once_any (L : List RX) (A : Option Addr) (n c : Nat) (w : World) (hl : RdN w w.heap.size 22 A n (rxsC L)) (hL : ∀ x ∈ L, (rxC x).length = 22) (hn : n ≤ 12) :
    Calls Try.prog 26 #[.slice A n c] w fun e w' => (∃ (A' : Option Addr) (c' : Nat), e = .returned (.slice A' (onceX L).length c') ∧ w'.ownsRow w.heap.size 27 22 (.slice A' (onceX L).length c') (onceX L).length (rxsC (onceX L)) ∧ ((onceX L).length = 0 → A' = none ∧ c' = 0)) ∧ Ext w w' := by
  obtain ⟨i0, hi, hz0, hz1, hz2⟩ := info_parts rv_info
  have HLN := Lib.hid (rx_n hl hL)
  have HL := Lib.hid hl; have HL22 := Lib.hid hL
  clear hl hL
  go_enter Try.func26, Try.ntmps26
  go_wp2_with fail
  go_loopw [3, 4, 5, 6] (fun s3 s4 _ _ wr => ∃ (t m c' : Nat) (A' : Option Addr), s4 = .int .i64 (t : Int) ∧ t ≤ n ∧ s3 = .slice A' m c' ∧ m = (onceX (L.take t)).length ∧ (m = 0 → A' = none ∧ c' = 0) ∧ wr.ownsRow w.heap.size 27 22 (.slice A' m c') m (rxsC (onceX (L.take t))) ∧ Ext w wr) (fun _ s4 _ _ _ => n - (intOf s4).toNat)
  case atStart => exact ⟨0, 0, 0, none, rfl, Nat.zero_le _, rfl, rfl, fun _ => ⟨rfl, rfl⟩, World.ownsRow_nil _ _ _ _, Ext.refl _⟩
  case round =>
    obtain ⟨t, m, c', A', rfl, ht, rfl, hm, hnil, hown, hE⟩ := hrel
    have EO := Lib.hid hE; have HOW := Lib.hid hown; have HNIL := Lib.hid hnil; have HML := Lib.hid hm
    clear hE hown hnil
    obtain ⟨wo, rfl⟩ : ∃ x : World, x = wr := ⟨_, rfl⟩
    have hm12 : m ≤ 12 := by
      rw [hm]
      have h1 := onceX_len (L.take t)
      rw [List.length_take] at h1
      omega
    clear hm
    by_cases hlt : t < n
    · obtain ⟨b0, p0, hA, hb, hrg⟩ := rx_at HL.out HL22.out (by omega)
      subst hA
      obtain ⟨x, hx⟩ : ∃ x, L[t]? = some x := ⟨_, List.getElem?_eq_getElem (by rw [HLN.out]; exact hlt)⟩
      have HXM : Hid (x ∈ L) := Lib.hid (List.mem_of_getElem? hx)
      have HR : Hid (∀ W, Ext wo W → W.rangeAt b0 (p0 + t * 22) (rxC x)) := Lib.hid (fun W hW => hrg W (fun a ha => (EO.out.next hW).cell ha) t x hx)
      have HX22 := Lib.hid (HL22.out x HXM.out)
      have HTK : Hid (onceX (L.take (t + 1)) = insX (onceX (L.take t)) x) := Lib.hid (by rw [take_snoc hx, onceX_snoc])
      have HTN : Hid (t + 1 ≤ n) := Lib.hid hlt
      have HGM : Hid (∀ y ∈ onceX (L.take t), (rxC y).length = 22) := Lib.hid (fun y hy => HL22.out y (List.mem_of_mem_take (onceX_mem _ y hy)))
      obtain ⟨G, hG⟩ : ∃ G, G = onceX (L.take t) := ⟨_, rfl⟩
      rw [← hG] at HOW HML HTK HGM
      clear hG hrg hb hx
      obtain ⟨s, hs⟩ : ∃ s, s = x.r.shop := ⟨_, rfl⟩
      obtain ⟨q, hq⟩ : ∃ q, q = x.r.seq := ⟨_, rfl⟩
      have HX0 : Hid (∀ W, Ext wo W → W.cell? ⟨b0, p0 + t * 22, none⟩ = some (.int .i64 s) ∧ W.cell? ⟨b0, p0 + t * 22 + 1, none⟩ = some (.int .i64 q)) := Lib.hid (fun W hW => by
        rw [hs, hq]
        exact ⟨HR.out W hW 0 _ rfl, HR.out W hW 1 _ rfl⟩)
      have HY0 : Hid (∀ (j : Nat) (y : RX), G[j]? = some y → ∃ g, A' = some ⟨g, 0, none⟩ ∧ ∀ W, Ext wo W → W.cell? ⟨g, j * 22, none⟩ = some (.int .i64 y.r.shop) ∧ W.cell? ⟨g, j * 22 + 1, none⟩ = some (.int .i64 y.r.seq)) := Lib.hid (fun j y hy => by
        have hj := (List.getElem?_eq_some_iff.1 hy).1
        obtain ⟨g, hA, _, _⟩ := own_nil HOW.out (by rw [HML.out]; omega)
        obtain ⟨b, p, hA2, hb, hrg⟩ := rx_at (rdn_own HOW.out) HGM.out (by rw [HML.out]; omega)
        rw [hA] at hA2
        simp only [Option.some.injEq, Addr.mk.injEq, and_true] at hA2
        obtain ⟨rfl, rfl⟩ := hA2
        refine ⟨g, hA, fun W hW => ?_⟩
        have h := hrg W (fun a ha => hW.cell ha) j y hy
        rw [Nat.zero_add] at h
        exact ⟨h 0 _ rfl, h 1 _ rfl⟩)
      obtain ⟨P, hP⟩ : ∃ P, P = posX G x := ⟨_, rfl⟩
      have HPM : Hid (P ≤ m) := Lib.hid (by rw [hP, HML.out]; exact posX_le G x)
      have HPL : Hid (∀ (j : Nat) (y : RX), j < P → G[j]? = some y → y.r.shop < s ∨ y.r.shop = s ∧ y.r.seq < q) := Lib.hid (fun j y hj hy => by
        rw [hs, hq]
        exact pos_lt (by rw [← hP]; exact hj) hy)
      have HPA : Hid (∀ y : RX, G[P]? = some y → (s < y.r.shop ∨ y.r.shop = s ∧ q ≤ y.r.seq) ∧ hitB G x = (decide (y.r.shop = s) && decide (y.r.seq = q))) := Lib.hid (fun y hy => by
        rw [hP] at hy
        have h := posX_at G x hy
        unfold ltK at h
        rw [hs, hq, hitB_at hy]
        refine ⟨by omega, ?_⟩
        unfold keyX
        rw [Bool.eq_iff_iff]
        simp)
      have HPE : Hid (P = m → hitB G x = false) := Lib.hid (fun h => hitB_end (by rw [← hP, h, HML.out]))
      have HGP : Hid (∀ j : Nat, j < m → ∃ y, G[j]? = some y) := Lib.hid (fun j hj => ⟨_, List.getElem?_eq_getElem (by rw [← HML.out]; exact hj)⟩)
      have HINH : Hid (hitB G x = true → onceX (L.take (t + 1)) = G) := Lib.hid (fun h => by rw [HTK.out, insX_hit h])
      have HINN : Hid (hitB G x = false → rxsC (insX G x) = rxsC (G.take P) ++ rxC x ++ rxsC (G.drop P) ∧ (insX G x).length = m + 1) := Lib.hid (fun h => by rw [hP, HML.out]; exact ⟨insX_new h, insX_newlen h⟩)
      clear hs hq hP
      obtain ⟨hb, hhb⟩ : ∃ hb, hb = hitB G x := ⟨_, rfl⟩
      rw [← hhb] at HPE HINH HINN HPA
      clear hhb
      go_upto_block 2 with fail
      go_cut [5] from 13 to 57 (fun s5 wx => s5 = .int .i64 (P : Int) ∧ Ext wo wx)
      case first =>
        go_wp2_with fail
        go_loopw [5] (fun s5 wr => ∃ j : Nat, s5 = .int .i64 (j : Int) ∧ j ≤ P ∧ Ext wo wr) (fun s5 _ => P - (intOf s5).toNat)
        case atStart => exact ⟨0, rfl, Nat.zero_le _, Ext.refl _⟩
        case round =>
          obtain ⟨j, rfl, hj, hE⟩ := hrel
          have EI := Lib.hid hE
          clear hE
          obtain ⟨wi, rfl⟩ : ∃ x : World, x = wr := ⟨_, rfl⟩
          have hx0 := HX0.out wi EI.out
          obtain ⟨cx0, cx1⟩ := hx0
          by_cases hjP : j < P
          · have hjm : j < m := Nat.lt_of_lt_of_le hjP HPM.out
            obtain ⟨y, hy⟩ := HGP.out j hjm
            obtain ⟨g, rfl, hcy⟩ := HY0.out j y hy
            obtain ⟨cy0, cy1⟩ := hcy wi EI.out
            have hlt3 := HPL.out j y hjP hy
            obtain ⟨s1, hs1⟩ : ∃ z, z = y.r.shop := ⟨_, rfl⟩
            obtain ⟨q1, hq1⟩ : ∃ z, z = y.r.seq := ⟨_, rfl⟩
            rw [← hs1] at cy0 hlt3; rw [← hq1] at cy1 hlt3
            have HJ : Hid (j + 1 ≤ P) := Lib.hid hjP
            have hd0 : decide ((j : Int) < (m : Int)) = true := decide_eq_true (by omega)
            clear hcy hy hs1 hq1
            rcases hlt3 with h1 | ⟨h1, h2⟩
            · have hd1 : decide (s1 < s) = true := decide_eq_true h1
              clear h1
              go_upto_region 6 with fail
              go_wp2_with fail
              go_quiet (fail)
              generalize hW : (World.drewN _ _) = W
              have EW : Hid (Ext wo W) := Lib.hid (by rw [← hW]; exact EI.out.drewN _)
              clear hW
              go_wp2_with fail
              exact ⟨⟨j + 1, by go_num, HJ.out, EW.out⟩, by have := HJ.out; simp [intOf]; omega⟩
            · have hd1 : decide (s1 < s) = false := decide_eq_false (by omega)
              have hd2 : (s1 == s) = true := by simp [h1]
              have hd3 : decide (q1 < q) = true := decide_eq_true h2
              clear h1 h2
              go_upto_region 6 with fail
              go_wp2_with fail
              go_quiet (fail)
              generalize hW : (World.drewN _ _) = W
              have EW : Hid (Ext wo W) := Lib.hid (by rw [← hW]; exact EI.out.drewN _)
              clear hW
              go_wp2_with fail
              exact ⟨⟨j + 1, by go_num, HJ.out, EW.out⟩, by have := HJ.out; simp [intOf]; omega⟩
          · obtain rfl : j = P := by omega
            by_cases hjm : j < m
            · obtain ⟨y, hy⟩ := HGP.out j hjm
              obtain ⟨g, rfl, hcy⟩ := HY0.out j y hy
              obtain ⟨cy0, cy1⟩ := hcy wi EI.out
              have hlt3 := (HPA.out y hy).1
              obtain ⟨s1, hs1⟩ : ∃ z, z = y.r.shop := ⟨_, rfl⟩
              obtain ⟨q1, hq1⟩ : ∃ z, z = y.r.seq := ⟨_, rfl⟩
              rw [← hs1] at cy0 hlt3; rw [← hq1] at cy1 hlt3
              have hd0 : decide ((j : Int) < (m : Int)) = true := decide_eq_true (by omega)
              clear hcy hy hs1 hq1
              rcases hlt3 with h1 | ⟨h1, h2⟩
              · have hd1 : decide (s1 < s) = false := decide_eq_false (by omega)
                have hd2 : (s1 == s) = false := by simp; omega
                clear h1
                go_upto_region 6 with fail
                go_wp2_with fail
                go_quiet (fail)
                generalize hW : (World.drewN _ _) = W
                have EW : Hid (Ext wo W) := Lib.hid (by rw [← hW]; exact EI.out.drewN _)
                clear hW
                go_wp2_with fail
                go_meet
                exact ⟨rfl, EW.out⟩
              · have hd1 : decide (s1 < s) = false := decide_eq_false (by omega)
                have hd2 : (s1 == s) = true := by simp [h1]
                have hd3 : decide (q1 < q) = false := decide_eq_false (by omega)
                clear h1 h2
                go_upto_region 6 with fail
                go_wp2_with fail
                go_quiet (fail)
                generalize hW : (World.drewN _ _) = W
                have EW : Hid (Ext wo W) := Lib.hid (by rw [← hW]; exact EI.out.drewN _)
                clear hW
                go_wp2_with fail
                go_meet
                exact ⟨rfl, EW.out⟩
            · have hd0 : decide ((j : Int) < (m : Int)) = false := decide_eq_false (by omega)
              go_upto_region 6 with fail
              go_wp2_with fail
              go_quiet (fail)
              generalize hW : (World.drewN _ _) = W
              have EW : Hid (Ext wo W) := Lib.hid (by rw [← hW]; exact EI.out.drewN _)
              clear hW
              go_wp2_with fail
              go_meet
              exact ⟨rfl, EW.out⟩
      case rest =>
        obtain ⟨rfl, hE⟩ := hcut
        have EC := Lib.hid hE
        clear hE
        obtain ⟨wi, rfl⟩ : ∃ x : World, x = wc := ⟨_, rfl⟩
        go_upto_region 8 with fail
        go_cut [87] from 58 to 86 (fun s87 wx => s87 = .bool hb ∧ Ext wo wx)
        case first =>
          obtain ⟨cx0, cx1⟩ := HX0.out wi EC.out
          by_cases hjm : P < m
          · obtain ⟨y, hy⟩ := HGP.out P hjm
            obtain ⟨g, rfl, hcy⟩ := HY0.out P y hy
            obtain ⟨cy0, cy1⟩ := hcy wi EC.out
            have hlt3 := (HPA.out y hy).2
            obtain ⟨s1, hs1⟩ : ∃ z, z = y.r.shop := ⟨_, rfl⟩
            obtain ⟨q1, hq1⟩ : ∃ z, z = y.r.seq := ⟨_, rfl⟩
            rw [← hs1] at cy0 hlt3; rw [← hq1] at cy1 hlt3
            have hd0 : decide ((P : Int) < (m : Int)) = true := decide_eq_true (by omega)
            clear hcy hy hs1 hq1
            by_cases h1 : s1 = s
            · have hd2 : (s1 == s) = true := by simp [h1]
              by_cases h2 : q1 = q
              · have hd3 : (q1 == q) = true := by simp [h2]
                rw [decide_eq_true h1, decide_eq_true h2] at hlt3
                have HH : Hid (hb = true) := Lib.hid hlt3
                clear h1 h2 hlt3
                go_wp2_with fail
                go_quiet (fail)
                generalize hW : (World.drewN _ _) = W
                have EW : Hid (Ext wo W) := Lib.hid (by rw [← hW]; exact EC.out.drewN _)
                clear hW
                go_wp2_with fail
                go_meet
                exact ⟨by rw [HH.out], EW.out⟩
              · have hd3 : (q1 == q) = false := by simp [h2]
                rw [decide_eq_true h1, decide_eq_false h2] at hlt3
                have HH : Hid (hb = false) := Lib.hid hlt3
                clear h1 h2 hlt3
                go_wp2_with fail
                go_quiet (fail)
                generalize hW : (World.drewN _ _) = W
                have EW : Hid (Ext wo W) := Lib.hid (by rw [← hW]; exact EC.out.drewN _)
                clear hW
                go_wp2_with fail
                go_meet
                exact ⟨by rw [HH.out], EW.out⟩
            · have hd2 : (s1 == s) = false := by simp [h1]
              rw [decide_eq_false h1] at hlt3
              have HH : Hid (hb = false) := Lib.hid hlt3
              clear h1 hlt3
              go_wp2_with fail
              go_quiet (fail)
              generalize hW : (World.drewN _ _) = W
              have EW : Hid (Ext wo W) := Lib.hid (by rw [← hW]; exact EC.out.drewN _)
              clear hW
              go_wp2_with fail
              go_meet
              exact ⟨by rw [HH.out], EW.out⟩
          · have hd0 : decide ((P : Int) < (m : Int)) = false := decide_eq_false (by omega)
            have HH : Hid (hb = false) := Lib.hid (HPE.out (by have := HPM.out; omega))
            go_wp2_with fail
            go_quiet (fail)
            generalize hW : (World.drewN _ _) = W
            have EW : Hid (Ext wo W) := Lib.hid (by rw [← hW]; exact EC.out.drewN _)
            clear hW
            go_wp2_with fail
            go_meet
            exact ⟨by rw [HH.out], EW.out⟩
        case rest =>
          obtain ⟨rfl, hE⟩ := hcut
          have EWO := Lib.hid hE
          clear hE
          obtain ⟨W, rfl⟩ : ∃ x : World, x = wc := ⟨_, rfl⟩
          cases hb
          · obtain ⟨hins, hnl⟩ := HINN.out rfl
            have HINS := Lib.hid hins; have HNL := Lib.hid hnl
            clear hins hnl
            have hPm := HPM.out
            rcases Nat.eq_zero_or_pos m with h0 | h0
            · subst h0
              obtain ⟨rfl, rfl⟩ := HNIL.out rfl
              obtain rfl : P = 0 := by omega
              have hG0 : G = [] := List.eq_nil_of_length_eq_zero HML.out.symm
              subst hG0
              have HSUB : Hid (RdN W W.heap.size 22 none 0 (rxsC (([] : List RX).take 0))) := Lib.hid ⟨rfl, fun h => absurd h (Nat.lt_irrefl _)⟩
              have HSB : Hid (∀ W : World, Ext wo W → RdN W W.heap.size 22 none 0 (rxsC (([] : List RX).drop 0))) := Lib.hid (fun W _ => ⟨rfl, fun h => absurd h (Nat.lt_irrefl _)⟩)
              go_upto_region 11 with (first | (at_builtin; refine wpList_app rfl (.tmp 88) (.tmp 91) 35 rfl wo.heap.size 27 i0 (.agg Z0.toArray) 22 88 Try.underlying35 hi hz0 hz1 hz2 rfl (by omega) none 0 0 [] rfl (World.ownsRow_nil _ _ _ _) W.heap.size none 0 0 (rxsC (([] : List RX).take 0)) rfl HSUB.out (rxs_one _) (by simp only [maxLen]; omega) (by omega) EWO.out.size ?_; rw [Nat.zero_add, List.nil_append]; intro A1 c1 w3 ho3 hg3; have HO3 := Lib.hid ho3; have E3 : Hid (Ext wo w3) := Lib.hid (EWO.out.grown hg3 EWO.out.size (fun k hk => by cases hk)); clear ho3 hg3))
              have HRX := Lib.hid (HR.out w3 E3.out)
              have hx22 := HX22.out
              go_upto_region 12 with (first | (refine wpList_load_mid rfl 27 (.tmp 96) rfl b0 (p0 + t * 22) (by kernel_rfl) (rxC x) _ HRX.out Try.underlying27 rfl (info_rev.trans (congrArg some HX22.out.symm)) ?_) | (at_builtin; refine wpList_app rfl (.tmp 93) (.tmp 98) 35 rfl wo.heap.size 27 i0 (.agg Z0.toArray) 22 88 Try.underlying35 hi hz0 hz1 hz2 rfl (by omega) A1 0 c1 _ rfl (HO3.out.alloc _) (w3.heap.size + 1) (some ⟨w3.heap.size, 0, none⟩) 1 1 (rxC x) (by kernel_rfl) (RdN.fresh (rxC x) _ _ 22 1 (by rw [fold_set]; exact HX22.out) rfl HX22.out) (rxC_one x) (by simp only [maxLen]; omega) (by omega) (by rw [World.size_alloc]; have := E3.out.size; omega) ?_; intro A2 c2 w5 ho5 hg5; have HO5 := Lib.hid ho5; have E5 : Hid (Ext wo w5) := Lib.hid (below_app (E3.out.alloc _) hg5 (HO3.out.alloc _) (Nat.le_refl _) (by rw [World.size_alloc]; have := E3.out.size; omega)); have HS5 := Lib.hid (HSB.out w5 E5.out); clear ho5 hg5))
              go_wp2_with (first | (at_builtin; refine wpList_app rfl (.tmp 100) (.tmp 103) 35 rfl wo.heap.size 27 i0 (.agg Z0.toArray) 22 88 Try.underlying35 hi hz0 hz1 hz2 rfl (by omega) A2 (0 + 1) c2 _ rfl HO5.out w5.heap.size none 0 0 (rxsC (([] : List RX).drop 0)) rfl HS5.out (rxs_one _) (by simp only [maxLen]; omega) (by omega) E5.out.size ?_; intro A3 c3 w7 ho7 hg7; have HO7 := Lib.hid ho7; have E7 : Hid (Ext wo w7) := Lib.hid (below_app E5.out hg7 HO5.out (Nat.le_refl _) E5.out.size); clear ho7 hg7))
              have hlen : Hid ((insX [] x).length = 0 + 1 + 0) := Lib.hid (by have := HNL.out; omega)
              go_roundw
              case rel =>
                refine ⟨t + 1, (insX [] x).length, c3, A3, by go_num, HTN.out, by rw [hlen.out], by rw [HTK.out], fun h0 => absurd h0 (by rw [hlen.out]; omega), ?_, EO.out.next E7.out⟩
                rw [HTK.out, HINS.out, hlen.out]
                exact own_lo HO7.out EO.out.size
              case measure => have := HTN.out; simp [intOf]; omega
            · obtain ⟨g, rfl, _, _⟩ := own_nil HOW.out h0
              have hcm := (slice_cap HOW.out)
              unfold maxLen at hcm
              obtain ⟨hcm1, hcm2⟩ := hcm
              have HRW : Hid (∀ W, Ext wo W → RdN W W.heap.size 22 (some ⟨g, 0, none⟩) m (rxsC G)) := Lib.hid (fun W hW => ((rdn_own HOW.out).below hW (Nat.le_refl _)).more hW.size)
              have HSUB : Hid (RdN W W.heap.size 22 (some ⟨g, 0, none⟩) P (rxsC (G.take P))) := Lib.hid (rxs_sub (HRW.out W EWO.out) HGM.out P hPm).1
              by_cases hcp : c' = P
              · obtain rfl : P = m := by omega
                obtain rfl : c' = P := hcp
                have HSB : Hid (∀ W, Ext wo W → RdN W W.heap.size 22 (some ⟨g, 0, none⟩) 0 (rxsC (G.drop c'))) := Lib.hid (fun W hW => by
                  have h := (rxs_sub (HRW.out W hW) HGM.out c' (Nat.le_refl _)).2
                  exact ⟨by rw [h.1, Nat.sub_self], fun h => absurd h (Nat.lt_irrefl _)⟩)
                go_upto_region 11 with (first | (at_builtin; refine wpList_app rfl (.tmp 88) (.tmp 91) 35 rfl wo.heap.size 27 i0 (.agg Z0.toArray) 22 88 Try.underlying35 hi hz0 hz1 hz2 rfl (by omega) none 0 0 [] rfl (World.ownsRow_nil _ _ _ _) W.heap.size (some ⟨g, 0, none⟩) c' c' (rxsC (G.take c')) rfl HSUB.out (rxs_one _) (by simp only [maxLen]; omega) (by omega) EWO.out.size ?_; rw [Nat.zero_add, List.nil_append]; intro A1 c1 w3 ho3 hg3; have HO3 := Lib.hid ho3; have E3 : Hid (Ext wo w3) := Lib.hid (EWO.out.grown hg3 EWO.out.size (fun k hk => by cases hk)); clear ho3 hg3))
                have HRX := Lib.hid (HR.out w3 E3.out)
                have hx22 := HX22.out
                go_upto_region 12 with (first | (refine wpList_load_mid rfl 27 (.tmp 96) rfl b0 (p0 + t * 22) (by kernel_rfl) (rxC x) _ HRX.out Try.underlying27 rfl (info_rev.trans (congrArg some HX22.out.symm)) ?_) | (at_builtin; refine wpList_app rfl (.tmp 93) (.tmp 98) 35 rfl wo.heap.size 27 i0 (.agg Z0.toArray) 22 88 Try.underlying35 hi hz0 hz1 hz2 rfl (by omega) A1 c' c1 _ rfl (HO3.out.alloc _) (w3.heap.size + 1) (some ⟨w3.heap.size, 0, none⟩) 1 1 (rxC x) (by kernel_rfl) (RdN.fresh (rxC x) _ _ 22 1 (by rw [fold_set]; exact HX22.out) rfl HX22.out) (rxC_one x) (by simp only [maxLen]; omega) (by omega) (by rw [World.size_alloc]; have := E3.out.size; omega) ?_; intro A2 c2 w5 ho5 hg5; have HO5 := Lib.hid ho5; have E5 : Hid (Ext wo w5) := Lib.hid (below_app (E3.out.alloc _) hg5 (HO3.out.alloc _) (Nat.le_refl _) (by rw [World.size_alloc]; have := E3.out.size; omega)); have HS5 := Lib.hid (HSB.out w5 E5.out); clear ho5 hg5))
                go_wp2_with (first | (at_builtin; refine wpList_app rfl (.tmp 100) (.tmp 103) 35 rfl wo.heap.size 27 i0 (.agg Z0.toArray) 22 88 Try.underlying35 hi hz0 hz1 hz2 rfl (by omega) A2 (c' + 1) c2 _ rfl HO5.out w5.heap.size (some ⟨g, 0, none⟩) 0 0 (rxsC (G.drop c')) rfl HS5.out (rxs_one _) (by simp only [maxLen]; omega) (by omega) E5.out.size ?_; intro A3 c3 w7 ho7 hg7; have HO7 := Lib.hid ho7; have E7 : Hid (Ext wo w7) := Lib.hid (below_app E5.out hg7 HO5.out (Nat.le_refl _) E5.out.size); clear ho7 hg7))
                have hlen : Hid ((insX G x).length = c' + 1 + 0) := Lib.hid (by have := HNL.out; omega)
                go_roundw
                case rel =>
                  refine ⟨t + 1, (insX G x).length, c3, A3, by go_num, HTN.out, by rw [hlen.out], by rw [HTK.out], fun h0 => absurd h0 (by rw [hlen.out]; omega), ?_, EO.out.next E7.out⟩
                  rw [HTK.out, HINS.out, hlen.out]
                  exact own_lo HO7.out EO.out.size
                case measure => have := HTN.out; simp [intOf]; omega
              · have HSB : Hid (∀ W, Ext wo W → RdN W W.heap.size 22 (some ⟨g, P * 22, none⟩) (m - P) (rxsC (G.drop P))) := Lib.hid (fun W hW => (rxs_sub (HRW.out W hW) HGM.out P hPm).2)
                go_upto_region 11 with (first | (at_builtin; refine wpList_app rfl (.tmp 88) (.tmp 91) 35 rfl wo.heap.size 27 i0 (.agg Z0.toArray) 22 88 Try.underlying35 hi hz0 hz1 hz2 rfl (by omega) none 0 0 [] rfl (World.ownsRow_nil _ _ _ _) W.heap.size (some ⟨g, 0, none⟩) P c' (rxsC (G.take P)) rfl HSUB.out (rxs_one _) (by simp only [maxLen]; omega) (by omega) EWO.out.size ?_; rw [Nat.zero_add, List.nil_append]; intro A1 c1 w3 ho3 hg3; have HO3 := Lib.hid ho3; have E3 : Hid (Ext wo w3) := Lib.hid (EWO.out.grown hg3 EWO.out.size (fun k hk => by cases hk)); clear ho3 hg3))
                have HRX := Lib.hid (HR.out w3 E3.out)
                have hx22 := HX22.out
                go_upto_region 12 with (first | (refine wpList_load_mid rfl 27 (.tmp 96) rfl b0 (p0 + t * 22) (by kernel_rfl) (rxC x) _ HRX.out Try.underlying27 rfl (info_rev.trans (congrArg some HX22.out.symm)) ?_) | (at_builtin; refine wpList_app rfl (.tmp 93) (.tmp 98) 35 rfl wo.heap.size 27 i0 (.agg Z0.toArray) 22 88 Try.underlying35 hi hz0 hz1 hz2 rfl (by omega) A1 P c1 _ rfl (HO3.out.alloc _) (w3.heap.size + 1) (some ⟨w3.heap.size, 0, none⟩) 1 1 (rxC x) (by kernel_rfl) (RdN.fresh (rxC x) _ _ 22 1 (by rw [fold_set]; exact HX22.out) rfl HX22.out) (rxC_one x) (by simp only [maxLen]; omega) (by omega) (by rw [World.size_alloc]; have := E3.out.size; omega) ?_; intro A2 c2 w5 ho5 hg5; have HO5 := Lib.hid ho5; have E5 : Hid (Ext wo w5) := Lib.hid (below_app (E3.out.alloc _) hg5 (HO3.out.alloc _) (Nat.le_refl _) (by rw [World.size_alloc]; have := E3.out.size; omega)); have HS5 := Lib.hid (HSB.out w5 E5.out); clear ho5 hg5))
                go_wp2_with (first | (at_builtin; refine wpList_app rfl (.tmp 100) (.tmp 103) 35 rfl wo.heap.size 27 i0 (.agg Z0.toArray) 22 88 Try.underlying35 hi hz0 hz1 hz2 rfl (by omega) A2 (P + 1) c2 _ rfl HO5.out w5.heap.size (some ⟨g, P * 22, none⟩) (m - P) (c' - P) (rxsC (G.drop P)) rfl HS5.out (rxs_one _) (by simp only [maxLen]; omega) (by omega) E5.out.size ?_; intro A3 c3 w7 ho7 hg7; have HO7 := Lib.hid ho7; have E7 : Hid (Ext wo w7) := Lib.hid (below_app E5.out hg7 HO5.out (Nat.le_refl _) E5.out.size); clear ho7 hg7))
                have hlen : Hid ((insX G x).length = P + 1 + (m - P)) := Lib.hid (by have := HNL.out; omega)
                go_roundw
                case rel =>
                  refine ⟨t + 1, (insX G x).length, c3, A3, by go_num, HTN.out, by rw [hlen.out], by rw [HTK.out], fun h0 => absurd h0 (by rw [hlen.out]; omega), ?_, EO.out.next E7.out⟩
                  rw [HTK.out, HINS.out, hlen.out]
                  exact own_lo HO7.out EO.out.size
                case measure => have := HTN.out; simp [intOf]; omega
          · have HH := Lib.hid (HINH.out rfl)
            go_wp2_with fail
            go_roundw
            case rel => exact ⟨t + 1, m, c', A', by go_num, HTN.out, rfl, by rw [HH.out]; exact HML.out, HNIL.out, by rw [HH.out]; exact (Kept.of_ext (F := fun _ => False) EWO.out).own HOW.out (fun _ _ h => h), EO.out.next EWO.out⟩
            case measure => have := HTN.out; simp [intOf]; omega
    · obtain rfl : t = n := by omega
      have HALL : Hid (L.take t = L) := Lib.hid (List.take_of_length_le (by rw [HLN.out]; exact Nat.le_refl _))
      rw [HALL.out] at HOW HML
      go_wp2_with fail
      go_ret
      exact ⟨⟨A', c', by rw [← HML.out]; rfl, by rw [← HML.out]; exact HOW.out, by rw [← HML.out]; exact HNIL.out⟩, EO.out⟩
end Go.Proofs.Ytphabdlcjpfbaaa
