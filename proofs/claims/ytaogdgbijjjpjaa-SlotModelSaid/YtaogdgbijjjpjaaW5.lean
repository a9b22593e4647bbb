/- WALKS: down. -/
import Derived.Test.YtaogdgbijjjpjaaW4
namespace Go.Proofs.Ytaogdgbijjjpjaa
open Go.RowKit
set_option linter.unusedVariables false
attribute [local go_sem ↓] Go.wp_at_zero Go.wp_at_succ

theorem downL_go {l : List Q} {i : Nat} (h0 : kid ltK l i < l.length) (h : ltK (at' l (kid ltK l i)) (at' l i) = true) : downL ltK l i = downL ltK (swp l i (kid ltK l i)) (kid ltK l i) := by
  conv => lhs; rw [downL]
  rw [dif_pos ⟨h0, h⟩]
theorem downL_stop {l : List Q} {i : Nat} (h : ¬ (kid ltK l i < l.length ∧ ltK (at' l (kid ltK l i)) (at' l i) = true)) : downL ltK l i = l := by rw [downL, dif_neg h]

set_option maxHeartbeats 4000000 in
set_option maxRecDepth 100000 in
theorem down_any {B : Nat} {w : World} {p : Nat} {F : Nat → Prop} {l : List Q} {room : Nat} (h : HA 23 B w p F l room) (i0 : Nat) (hi0 : i0 < l.length) (hll : l.length ≤ 4096) :
    Calls Try.prog 46 #[.pointer (some ⟨p, 0, none⟩), .int .i64 i0] w fun e w' => e = .returned (.tuple #[]) ∧ HA 23 B w' p F (downL ltK l i0) room ∧ Fr F w w' := by
  go_enter Try.func46, Try.ntmps46
  go_wp2_with fail
  go_loopw [1] (fun si wr => ∃ (i : Nat) (l' : List Q), l'.length = l.length ∧ i < l.length ∧ si = .int .i64 i ∧ Hid (downL ltK l' i = downL ltK l i0) ∧ HA 23 B wr p F l' room ∧ Fr F w wr) (fun si _ => l.length - (intOf si).toNat)
  case atStart => exact ⟨i0, l, rfl, hi0, rfl, rfl, h, Fr.refl _ _⟩
  case round =>
    obtain ⟨i, l', hl, hi, rfl, HU, hH, hf⟩ := hrel
    obtain ⟨n, hn⟩ : ∃ n, l.length = n := ⟨_, rfl⟩
    have hn' : l'.length = n := by rw [hl, hn]
    have HL := Lib.hid hl
    have HH := Lib.hid hH
    have Hf := Lib.hid hf
    obtain ⟨a, c, hc, ho, _⟩ := hH.row
    obtain ⟨g, cap, hv, _⟩ := ownsRow_cells ho (by omega)
    simp only [Value.slice.injEq, true_and] at hv
    obtain ⟨rfl, _⟩ := hv
    obtain ⟨hq, hfz, hgp, hFg, hlc, hc9⟩ := hH.at_ hc
    have Hq := Lib.hid hq
    rw [hn'] at hc
    have Hn := Lib.hid hn
    have Hn' := Lib.hid hn'
    have hin : i < n := by omega
    have hn4 : n ≤ 4096 := by omega
    clear ho hf hH hq hl hn hlc hc9 hi hll hi0 h
    obtain ⟨K0, hK0⟩ : ∃ K, 2 * i + 1 = K := ⟨_, rfl⟩
    obtain ⟨K1, hK1⟩ : ∃ K, K0 + 1 = K := ⟨_, rfl⟩
    obtain ⟨KK, hKK⟩ : ∃ K, kid ltK l' i = K := ⟨_, rfl⟩
    have hkd : KK = if K1 < n ∧ ltK (at' l' K1) (at' l' K0) = true then K1 else K0 := by rw [← hKK]; unfold kid; rw [hn', hK0, hK1]
    have HKK := Lib.hid hKK
    have Hkd := Lib.hid hkd
    have e0 : 2 * (i : Int) + 1 = (K0 : Int) := by omega
    have e1 : (K0 : Int) + 1 = (K1 : Int) := by omega
    have e2 : IntKind.i64.wrap ((K0 : Int) + 1) = (K1 : Int) := by rw [IntWalk.i64_in _ (by omega)]; omega
    have e3 : IntKind.i64.wrap (K1 : Int) = (K1 : Int) := IntWalk.i64_in _ (by omega)
    have b0 : K0 ≤ 8193 := by omega
    have b1 : K1 ≤ 8194 := by omega
    have b01 : K0 < K1 := by omega
    have bi0 : i < K0 := by omega
    clear hkd hKK hn' hK0 hK1
    go_upto_region 1 with fail
    go_cut [34] (fun s wx => ∃ bb : Bool, s = .bool bb ∧ Hid (bb = true ↔ K1 < n ∧ ltK (at' l' K1) (at' l' K0) = true) ∧ Below wr.heap.size wr wx)
    case first =>
      by_cases h0 : K1 < n
      · have hx := Hq.out K1 (by rw [Hn'.out]; omega)
        have hy := Hq.out K0 (by rw [Hn'.out]; omega)
        have HB : Hid (∀ bb : Bool, bb = decide (cmpK (l'[K1]'(by rw [Hn'.out]; omega)) (l'[K0]'(by rw [Hn'.out]; omega)) < 0) → (bb = true ↔ K1 < n ∧ ltK (at' l' K1) (at' l' K0) = true)) := by
          intro bb hb
          rw [hb, at_eq l' K1 (by rw [Hn'.out]; omega), at_eq l' K0 (by rw [Hn'.out]; omega)]
          exact ⟨fun h => ⟨h0, h⟩, fun h => h.2⟩
        have HK : Hid (∀ W, Below wr.heap.size wr W → Rd wr p g n c K1 K0 (l'[K1]'(by rw [Hn'.out]; omega)) (l'[K0]'(by rw [Hn'.out]; omega)) W) := fun W hb => Rd.of hc hx hy hb
        have hiI : (K1 : Int) < (n : Int) := by omega
        have hi00 : (0 : Int) ≤ (K1 : Int) := by omega
        have hppI : (K0 : Int) < (n : Int) := by omega
        have hpp0 : (0 : Int) ≤ (K0 : Int) := by omega
        have hd1 : decide ((K1 : Int) < (n : Int)) = true := by simp; omega
        have hd2 : decide (K1 < n) = true := by simp; omega
        generalize l'[K1]'(by rw [Hn'.out]; omega) = x at *
        generalize l'[K0]'(by rw [Hn'.out]; omega) = y at *
        obtain ⟨x0, x1, x2, x3⟩ := x
        obtain ⟨y0, y1, y2, y3⟩ := y
        have hbr : Below wr.heap.size wr wr := Below.refl _ _
        have HC := Lib.hid (fun W (hb : Below wr.heap.size wr W) => cmpK_from (w0 := wr) (x0, x1, x2, x3) (y0, y1, y2, y3) hb)
        unfold qv at HC
        simp only at HC
        generalize cmpK (x0, x1, x2, x3) (y0, y1, y2, y3) = r at *
        clear hx hy hc hfz
        go_region_held3 (fun w' => (w'.cell? ⟨p, 0, none⟩ = some (.slice (some ⟨g, 0, none⟩) n c) ∧ w'.cell? ⟨g, K1 * 4, none⟩ = some (.int .i64 x0) ∧ w'.cell? ⟨g, K1 * 4 + 1, none⟩ = some (.int .i64 x1) ∧ w'.cell? ⟨g, K1 * 4 + 2, none⟩ = some (.int .i64 x2) ∧ w'.cell? ⟨g, K1 * 4 + 3, none⟩ = some (.int .i64 x3) ∧ w'.cell? ⟨g, K0 * 4, none⟩ = some (.int .i64 y0) ∧ w'.cell? ⟨g, K0 * 4 + 1, none⟩ = some (.int .i64 y1) ∧ w'.cell? ⟨g, K0 * 4 + 2, none⟩ = some (.int .i64 y2) ∧ w'.cell? ⟨g, K0 * 4 + 3, none⟩ = some (.int .i64 y3)) ∧ Below wr.heap.size wr w')
          ((first | (obtain ⟨z0, z1, z2, z3, z4, z5, z6, z7, z8, z9⟩ := HK.out _ (bel_drew hbr); exact ⟨⟨z0, z1, z2, z3, z4, z5, z6, z7, z8⟩, z9⟩) | (obtain ⟨z0, z1, z2, z3, z4, z5, z6, z7, z8, z9⟩ := HK.out _ (by assumption); exact ⟨⟨z0, z1, z2, z3, z4, z5, z6, z7, z8⟩, z9⟩)))
          ((go_at_call 15; refine Calls.mono (HC.out _ ?_) ?_; (first | assumption | exact bel_drew hbr); rintro e w2 ⟨rfl, hP2⟩))
        go_wp2_with fail
        go_meet
        case rel => exact ⟨_, rfl, HB.out _ rfl, hP2⟩
      · have hd1 : decide ((K1 : Int) < (n : Int)) = false := by simp; omega
        have hd2 : decide (K1 < n) = false := by simp; omega
        have hd3 : (n : Int) ≤ (K1 : Int) := by omega
        go_wp2_with fail
        go_quiet (fail)
        go_wp2_with fail
        go_meet
        case rel => exact ⟨false, rfl, ⟨fun h => by simp at h, fun h => absurd h.1 h0⟩, bel_drewN (Below.refl _ _) _⟩
    case rest =>
      obtain ⟨bb, rfl, HB, hb⟩ := hcut
      go_upto_if 34 with fail
      go_cut [4] (fun s wx => s = .int .i64 (KK : Int) ∧ wx = wc)
      case first =>
        cases bb
        · have hk : KK = K0 := by rw [Hkd.out, if_neg (fun h => by have := HB.out.2 h; simp at this)]
          have Hk := Lib.hid hk
          clear hk HB
          go_wp2_with fail
          go_meet
          case rel => exact ⟨by rw [Hk.out], rfl⟩
        · have hk : KK = K1 := by rw [Hkd.out, if_pos (HB.out.1 rfl)]
          have Hk := Lib.hid hk
          clear hk HB
          go_wp2_with fail
          go_meet
          case rel => exact ⟨by rw [Hk.out], rfl⟩
      case rest =>
        obtain ⟨rfl, hwc⟩ := hcut
        subst hwc
        have hHc := HH.out.below hb
        have hfc := Hf.out.trans (Fr.of_below (S := F) hb) (fun _ _ h => h) (fun _ _ h => h)
        have hcc : wc.cell? ⟨p, 0, none⟩ = some (.slice (some ⟨g, 0, none⟩) n c) := (hb.cell (p := ⟨p, 0, none⟩) (block_lt (a := ⟨p, 0, none⟩) hc)).trans hc
        have hKb : K0 ≤ KK ∧ KK ≤ K1 := by rw [Hkd.out]; split <;> omega
        obtain ⟨hKb0, hKb1⟩ := hKb
        have Hqc : Hid (∀ j (hj : j < l'.length), Q4 wc g (j * 4) l'[j]) := fun j hj => (Hq.out j hj).below hb
        clear HB hc hfz hb e0 e1 e2 e3
        have HH2 := Lib.hid hHc
        have Hf2 := Lib.hid hfc
        clear HH Hf Hq hHc hfc
        go_upto_region 3 with fail
        obtain ⟨wx, hwx⟩ : ∃ wx, wc = wx := ⟨_, rfl⟩
        rw [hwx] at hcc Hqc HH2 Hf2 ⊢
        clear hwx
        go_cut [61] (fun s wy => ∃ bb : Bool, s = .bool bb ∧ Hid (bb = true ↔ ¬ (KK < n ∧ ltK (at' l' KK) (at' l' i) = true)) ∧ Below wx.heap.size wx wy)
        case first =>
          by_cases h0 : KK < n
          · have hx := Hqc.out i (by rw [Hn'.out]; omega)
            have hy := Hqc.out KK (by rw [Hn'.out]; omega)
            have HB : Hid (∀ bb : Bool, bb = decide (cmpK (l'[i]'(by rw [Hn'.out]; omega)) (l'[KK]'(by rw [Hn'.out]; omega)) ≤ 0) → (bb = true ↔ ¬ (KK < n ∧ ltK (at' l' KK) (at' l' i) = true))) := by
              intro bb hb
              rw [hb, ltK_le, at_eq l' KK (by rw [Hn'.out]; omega), at_eq l' i (by rw [Hn'.out]; omega)]
              simp [h0]
            have HK : Hid (∀ W, Below wx.heap.size wx W → Rd wx p g n c i KK (l'[i]'(by rw [Hn'.out]; omega)) (l'[KK]'(by rw [Hn'.out]; omega)) W) := fun W hb => Rd.of hcc hx hy hb
            have hiI : (i : Int) < (n : Int) := by omega
            have hi00 : (0 : Int) ≤ (i : Int) := by omega
            have hppI : (KK : Int) < (n : Int) := by omega
            have hpp0 : (0 : Int) ≤ (KK : Int) := by omega
            have hd1 : decide ((n : Int) ≤ (KK : Int)) = false := by simp; omega
            have hd2 : decide (n ≤ KK) = false := by simp; omega
            generalize l'[i]'(by rw [Hn'.out]; omega) = x at *
            generalize l'[KK]'(by rw [Hn'.out]; omega) = y at *
            obtain ⟨x0, x1, x2, x3⟩ := x
            obtain ⟨y0, y1, y2, y3⟩ := y
            have hbr : Below wx.heap.size wx wx := Below.refl _ _
            have HC := Lib.hid (fun W (hb : Below wx.heap.size wx W) => cmpK_from (w0 := wx) (x0, x1, x2, x3) (y0, y1, y2, y3) hb)
            unfold qv at HC
            simp only at HC
            generalize cmpK (x0, x1, x2, x3) (y0, y1, y2, y3) = r at *
            clear hx hy hcc
            go_region_held3 (fun w' => (w'.cell? ⟨p, 0, none⟩ = some (.slice (some ⟨g, 0, none⟩) n c) ∧ w'.cell? ⟨g, i * 4, none⟩ = some (.int .i64 x0) ∧ w'.cell? ⟨g, i * 4 + 1, none⟩ = some (.int .i64 x1) ∧ w'.cell? ⟨g, i * 4 + 2, none⟩ = some (.int .i64 x2) ∧ w'.cell? ⟨g, i * 4 + 3, none⟩ = some (.int .i64 x3) ∧ w'.cell? ⟨g, KK * 4, none⟩ = some (.int .i64 y0) ∧ w'.cell? ⟨g, KK * 4 + 1, none⟩ = some (.int .i64 y1) ∧ w'.cell? ⟨g, KK * 4 + 2, none⟩ = some (.int .i64 y2) ∧ w'.cell? ⟨g, KK * 4 + 3, none⟩ = some (.int .i64 y3)) ∧ Below wx.heap.size wx w')
              ((first | (obtain ⟨z0, z1, z2, z3, z4, z5, z6, z7, z8, z9⟩ := HK.out _ (bel_drew hbr); exact ⟨⟨z0, z1, z2, z3, z4, z5, z6, z7, z8⟩, z9⟩) | (obtain ⟨z0, z1, z2, z3, z4, z5, z6, z7, z8, z9⟩ := HK.out _ (by assumption); exact ⟨⟨z0, z1, z2, z3, z4, z5, z6, z7, z8⟩, z9⟩)))
              ((go_at_call 15; refine Calls.mono (HC.out _ ?_) ?_; (first | assumption | exact bel_drew hbr); rintro e w2 ⟨rfl, hP2⟩))
            go_wp2_with fail
            go_meet
            case rel => exact ⟨_, rfl, HB.out _ rfl, hP2⟩
          · have hd1 : decide ((n : Int) ≤ (KK : Int)) = true := by simp; omega
            have hd2 : decide (n ≤ KK) = true := by simp; omega
            have hd3 : (n : Int) ≤ (KK : Int) := by omega
            go_wp2_with fail
            go_quiet (fail)
            go_wp2_with fail
            go_meet
            case rel => exact ⟨true, rfl, ⟨fun _ h => h0 h.1, fun _ => rfl⟩, bel_drewN (Below.refl _ _) _⟩
        case rest =>
          obtain ⟨bb, rfl, HB, hb⟩ := hcut
          have hHc := HH2.out.below hb
          have hfc := Hf2.out.trans (Fr.of_below (S := F) hb) (fun _ _ h => h) (fun _ _ h => h)
          clear HH2 Hf2 Hqc hcc hb
          cases bb
          · have hgo' : KK < n ∧ ltK (at' l' KK) (at' l' i) = true := by
              rcases Classical.em (KK < n ∧ ltK (at' l' KK) (at' l' i) = true) with h | h
              · exact h
              · have := HB.out.2 h; simp at this
            obtain ⟨hk, hlt⟩ := hgo'
            have hgo : downL ltK l' i = downL ltK (swp l' i KK) KK := by
              have := downL_go (l := l') (i := i) (by rw [HKK.out, Hn'.out]; exact hk) (by rw [HKK.out]; exact hlt)
              rw [HKK.out] at this; exact this
            have E : Hid (downL ltK (swp l' i KK) KK = downL ltK l i0) := hgo.symm.trans HU.out
            have hS := Lib.hid (swap_h hHc i KK (by rw [Hn'.out]; omega) (by rw [Hn'.out]; omega))
            clear hgo hlt HB HU hHc
            go_wp2_with fail
            refine hS.out.mono ?_
            rintro e w3 ⟨rfl, hH3, hf3⟩
            go_wp2_with fail
            go_roundw
            case rel => exact ⟨KK, swp l' i KK, by rw [swp_length]; exact HL.out, by rw [Hn.out]; exact hk, rfl, E, hH3, hfc.trans hf3 (fun _ _ h => h) (fun _ _ h => h)⟩
            case measure =>
              have := Hn.out
              simp [intOf]; omega
          · have hst : downL ltK l' i = l' := downL_stop (by rw [HKK.out, Hn'.out]; exact HB.out.1 rfl)
            have E := Lib.hid (HU.out.symm.trans hst)
            have HH := Lib.hid hHc
            clear hst HB hHc
            go_wp2_with fail
            refine bodyPost_ret (results_none rfl _ _ _) rfl ?_
            exact ⟨rfl, by rw [E.out]; exact HH.out, hfc⟩
end Go.Proofs.Ytaogdgbijjjpjaa
