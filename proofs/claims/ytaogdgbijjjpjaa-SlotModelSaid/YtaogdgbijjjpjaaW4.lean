/- WALKS: up, down. -/
import Derived.Test.YtaogdgbijjjpjaaW3
import Derived.IntWalk
namespace Go.Proofs.Ytaogdgbijjjpjaa
open Go.RowKit
set_option linter.unusedVariables false
attribute [local go_sem ↓] Go.wp_at_zero Go.wp_at_succ

theorem below_grow (w : World) (q : Nat) (os : Array Obj) : Below w.heap.size w (Sort.grow (w.drewN q) os) := by
  refine ⟨rfl, rfl, rfl, ?_, fun k hk => ?_⟩
  · simp [Sort.grow]
  · simp [Sort.grow, Array.getElem?_append_left hk]

/-- Compare, in a world that has come of w0 by growth. -/
theorem cmpK_from {w0 w : World} (x y : Q) (h : Below w0.heap.size w0 w) : Calls Try.prog 15 #[qv x, qv y] w fun e w' => e = .returned (.int .i64 (cmpK x y)) ∧ Below w0.heap.size w0 w' := by
  refine (cmpK_any x y w).mono ?_
  rintro e w' ⟨rfl, q, os, rfl⟩
  exact ⟨rfl, h.trans ((below_grow w q os).mono h.size)⟩

/-- What a test of two elements reads. -/
structure Rd (w0 : World) (p g n c i j : Nat) (x y : Q) (W : World) : Prop where
  hd : W.cell? ⟨p, 0, none⟩ = some (.slice (some ⟨g, 0, none⟩) n c)
  x0 : W.cell? ⟨g, i * 4, none⟩ = some (.int .i64 x.1)
  x1 : W.cell? ⟨g, i * 4 + 1, none⟩ = some (.int .i64 x.2.1)
  x2 : W.cell? ⟨g, i * 4 + 2, none⟩ = some (.int .i64 x.2.2.1)
  x3 : W.cell? ⟨g, i * 4 + 3, none⟩ = some (.int .i64 x.2.2.2)
  y0 : W.cell? ⟨g, j * 4, none⟩ = some (.int .i64 y.1)
  y1 : W.cell? ⟨g, j * 4 + 1, none⟩ = some (.int .i64 y.2.1)
  y2 : W.cell? ⟨g, j * 4 + 2, none⟩ = some (.int .i64 y.2.2.1)
  y3 : W.cell? ⟨g, j * 4 + 3, none⟩ = some (.int .i64 y.2.2.2)
  bel : Below w0.heap.size w0 W
theorem Rd.of {w0 : World} {p g n c i j : Nat} {x y : Q} (hc : w0.cell? ⟨p, 0, none⟩ = some (.slice (some ⟨g, 0, none⟩) n c)) (hx : Q4 w0 g (i * 4) x) (hy : Q4 w0 g (j * 4) y) {W : World} (hb : Below w0.heap.size w0 W) : Rd w0 p g n c i j x y W :=
  have a := hx.below hb
  have b := hy.below hb
  ⟨(hb.cell (p := ⟨p, 0, none⟩) (block_lt (a := ⟨p, 0, none⟩) hc)).trans hc, a.c0, a.c1, a.c2, a.c3, b.c0, b.c1, b.c2, b.c3, hb⟩

theorem upL_go {l : List Q} {i : Nat} (h0 : 0 < i) (h : ltK (at' l i) (at' l ((i - 1) / 2)) = true) : upL ltK l i = upL ltK (swp l i ((i - 1) / 2)) ((i - 1) / 2) := by
  conv => lhs; rw [upL]
  rw [dif_pos ⟨h0, h⟩]
theorem upL_stop {l : List Q} {i : Nat} (h : ¬ (0 < i ∧ ltK (at' l i) (at' l ((i - 1) / 2)) = true)) : upL ltK l i = l := by rw [upL, dif_neg h]

set_option maxHeartbeats 4000000 in
set_option maxRecDepth 100000 in
theorem up_any {B : Nat} {w : World} {p : Nat} {F : Nat → Prop} {l : List Q} {room : Nat} (h : HA 23 B w p F l room) (i0 : Nat) (hi0 : i0 < l.length) :
    Calls Try.prog 43 #[.pointer (some ⟨p, 0, none⟩), .int .i64 i0] w fun e w' => e = .returned (.tuple #[]) ∧ HA 23 B w' p F (upL ltK l i0) room ∧ Fr F w w' := by
  have hll : l.length ≤ 9223372036854775807 := by
    obtain ⟨a, c, hc, ho, _⟩ := h.row
    obtain ⟨g, cap, hv, _⟩ := ownsRow_cells ho (by omega)
    simp only [Value.slice.injEq, true_and] at hv
    obtain ⟨rfl, _⟩ := hv
    have := (h.at_ hc).2.2.2.2
    omega
  go_enter Try.func43, Try.ntmps43
  go_wp2_with fail
  go_loopw [1] (fun si wr => ∃ (i : Nat) (l' : List Q), l'.length = l.length ∧ i < l.length ∧ si = .int .i64 i ∧ Hid (upL ltK l' i = upL ltK l i0) ∧ HA 23 B wr p F l' room ∧ Fr F w wr) (fun si _ => (intOf si).toNat)
  case atStart => exact ⟨i0, l, rfl, hi0, rfl, rfl, h, Fr.refl _ _⟩
  case round =>
    obtain ⟨i, l', hl, hi, rfl, HU, hH, hf⟩ := hrel
    have HH := Lib.hid hH
    have Hf := Lib.hid hf
    obtain ⟨a, c, hc, ho, _⟩ := hH.row
    obtain ⟨g, cap, hv, _⟩ := ownsRow_cells ho (by omega)
    simp only [Value.slice.injEq, true_and] at hv
    obtain ⟨rfl, _⟩ := hv
    obtain ⟨hq, hfz, hgp, hFg, hlc, hc9⟩ := hH.at_ hc
    clear ho hf hH
    obtain ⟨pp, hpp⟩ : ∃ pp, (i - 1) / 2 = pp := ⟨_, rfl⟩
    go_upto_region 0 with fail
    go_cut [25] (fun s wx => ∃ bb : Bool, s = .bool bb ∧ Hid (bb = true ↔ 0 < i ∧ ltK (at' l' i) (at' l' pp) = true) ∧ Below wr.heap.size wr wx)
    case first =>
      by_cases h0 : i = 0
      · subst h0
        go_wp2_with fail
        go_quiet (fail)
        go_wp2_with fail
        go_meet
        case rel => exact ⟨false, rfl, ⟨fun h => by simp at h, fun h => by omega⟩, bel_drewN (Below.refl _ _) _⟩
      · have hx := hq i (by omega)
        have hy := hq pp (by omega)
        have HB : Hid (∀ bb : Bool, bb = decide (cmpK l'[i] l'[pp] < 0) → (bb = true ↔ 0 < i ∧ ltK (at' l' i) (at' l' pp) = true)) := by
          intro bb hb
          rw [hb, at_eq l' i (by omega), at_eq l' pp (by omega)]
          exact ⟨fun h => ⟨by omega, h⟩, fun h => h.2⟩
        have HK : Hid (∀ W, Below wr.heap.size wr W → Rd wr p g l'.length c i pp l'[i] l'[pp] W) := fun W hb => Rd.of hc hx hy hb
        have hiI : (i : Int) < (l'.length : Int) := by omega
        have hi00 : (0 : Int) ≤ (i : Int) := by omega
        have hi1 : decide ((0 : Int) < (i : Int)) = true := by simp; omega
        have hi2 : decide (0 < i) = true := by simp; omega
        have hppI : (pp : Int) < (l'.length : Int) := by omega
        have hpp0 : (0 : Int) ≤ (pp : Int) := by omega
        have hppL : (pp : Int) < (l.length : Int) := by omega
        have hiL : (i : Int) < (l.length : Int) := by omega
        have k1 : IntKind.i64.wrap ((i : Int) - 1) = (i : Int) - 1 := IntWalk.i64_in _ (by omega)
        have k2 : ((i : Int) - 1).tdiv 2 = (pp : Int) := by rw [Int.tdiv_eq_ediv_of_nonneg (by omega)]; omega
        have k4 : ((i : Int) - 1) / 2 = (pp : Int) := by omega
        have k5 : ((pp : Int)).toNat = pp := by omega
        have k3 : IntKind.i64.wrap (pp : Int) = (pp : Int) := IntWalk.i64_in _ (by omega)
        generalize l'[i] = x at *
        generalize l'[pp] = y at *
        obtain ⟨x0, x1, x2, x3⟩ := x
        obtain ⟨y0, y1, y2, y3⟩ := y
        have hbr : Below wr.heap.size wr wr := Below.refl _ _
        have HC := Lib.hid (fun W (hb : Below wr.heap.size wr W) => cmpK_from (w0 := wr) (x0, x1, x2, x3) (y0, y1, y2, y3) hb)
        unfold qv at HC
        simp only at HC
        generalize cmpK (x0, x1, x2, x3) (y0, y1, y2, y3) = r at *
        clear hq hx hy hc hfz hpp h0
        go_region_held3 (fun w' => (w'.cell? ⟨p, 0, none⟩ = some (.slice (some ⟨g, 0, none⟩) l'.length c) ∧ w'.cell? ⟨g, i * 4, none⟩ = some (.int .i64 x0) ∧ w'.cell? ⟨g, i * 4 + 1, none⟩ = some (.int .i64 x1) ∧ w'.cell? ⟨g, i * 4 + 2, none⟩ = some (.int .i64 x2) ∧ w'.cell? ⟨g, i * 4 + 3, none⟩ = some (.int .i64 x3) ∧ w'.cell? ⟨g, pp * 4, none⟩ = some (.int .i64 y0) ∧ w'.cell? ⟨g, pp * 4 + 1, none⟩ = some (.int .i64 y1) ∧ w'.cell? ⟨g, pp * 4 + 2, none⟩ = some (.int .i64 y2) ∧ w'.cell? ⟨g, pp * 4 + 3, none⟩ = some (.int .i64 y3)) ∧ Below wr.heap.size wr w')
          ((first | (obtain ⟨z0, z1, z2, z3, z4, z5, z6, z7, z8, z9⟩ := HK.out _ (bel_drew hbr); exact ⟨⟨z0, z1, z2, z3, z4, z5, z6, z7, z8⟩, z9⟩) | (obtain ⟨z0, z1, z2, z3, z4, z5, z6, z7, z8, z9⟩ := HK.out _ (by assumption); exact ⟨⟨z0, z1, z2, z3, z4, z5, z6, z7, z8⟩, z9⟩)))
          ((go_at_call 15; refine Calls.mono (HC.out _ ?_) ?_; (first | assumption | exact bel_drew hbr); rintro e w2 ⟨rfl, hP2⟩))
        go_wp2_with fail
        go_meet
        case rel => exact ⟨_, rfl, HB.out _ rfl, hP2⟩
    case rest =>
      obtain ⟨bb, rfl, HB, hb⟩ := hcut
      have hHc := HH.out.below hb
      have hfc := Hf.out.trans (Fr.of_below (S := F) hb) (fun _ _ h => h) (fun _ _ h => h)
      clear HH Hf hq hfz hc
      cases bb
      · have hst : upL ltK l' i = l' := upL_stop (by rw [hpp]; intro h; have := HB.out.2 h; simp at this)
        have E := Lib.hid (HU.out.symm.trans hst)
        have HH := Lib.hid hHc
        clear hst HB hHc
        go_wp2_with fail
        go_end0
        exact ⟨rfl, by rw [E.out]; exact HH.out, hfc⟩
      · obtain ⟨h0, hlt⟩ := HB.out.1 rfl
        have hgo : upL ltK l' i = upL ltK (swp l' i pp) pp := by
          have := upL_go (l := l') h0 (by rw [hpp]; exact hlt)
          rw [hpp] at this; exact this
        have E : Hid (upL ltK (swp l' i pp) pp = upL ltK l i0) := hgo.symm.trans HU.out
        have hS := Lib.hid (swap_h hHc i pp (by omega) (by omega))
        have hpI : ((i : Int) - 1) / 2 = (pp : Int) := by omega
        have h0I : (0 : Int) < (i : Int) := by omega
        have hiI : (i : Int) < (l.length : Int) := by omega
        clear hgo hlt HB HU hHc
        go_wp2_with fail
        refine hS.out.mono ?_
        rintro e w3 ⟨rfl, hH3, hf3⟩
        go_wp2_with fail
        go_roundw
        case rel => exact ⟨pp, swp l' i pp, by rw [swp_length]; exact hl, by omega, by rw [hpI], E, hH3, hfc.trans hf3 (fun _ _ h => h) (fun _ _ h => h)⟩
        case measure => simp [intOf]; omega
end Go.Proofs.Ytaogdgbijjjpjaa
