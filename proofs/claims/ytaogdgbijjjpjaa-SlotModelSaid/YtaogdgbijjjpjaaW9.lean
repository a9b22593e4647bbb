/- WALKS: the heap's Change, Push. -/
import Derived.Test.YtaogdgbijjjpjaaW8
namespace Go.Proofs.Ytaogdgbijjjpjaa
open Go.RowKit
set_option linter.unusedVariables false

set_option maxHeartbeats 4000000 in
set_option maxRecDepth 100000 in
theorem change_any {B : Nat} {w : World} {p : Nat} {F : Nat → Prop} {l : List Q} {room : Nat} (h : HA 23 B w p F l room) (k : Q) (hll : l.length ≤ 4096) :
    Calls Try.prog 21 #[.pointer (some ⟨p, 0, none⟩), qv k] w fun e w' => ∃ r : Int, Idx (fun x => x.2.2.2 == k.2.2.2) l r ∧ e = .returned (.bool (decide (0 ≤ r))) ∧ HA 23 B w' p F (chgL l r k) room ∧ Fr F w w' := by
  obtain ⟨k0, k1, k2, k3⟩ := k
  have hfa : Below w.heap.size w (w.alloc (.cells #[.int .i64 k0, .int .i64 k1, .int .i64 k2, .int .i64 k3] 23)) := (Below.refl _ _).alloc (Nat.le_refl _) _
  have h1 := h.below hfa
  have P := Lib.hid (place_any h1 k3)
  have b0 := cell_newb w #[.int .i64 k0, .int .i64 k1, .int .i64 k2, .int .i64 k3] 23 _ 0 _ rfl rfl
  have b1 := cell_newb w #[.int .i64 k0, .int .i64 k1, .int .i64 k2, .int .i64 k3] 23 _ 1 _ rfl rfl
  have b2 := cell_newb w #[.int .i64 k0, .int .i64 k1, .int .i64 k2, .int .i64 k3] 23 _ 2 _ rfl rfl
  have b3 := cell_newb w #[.int .i64 k0, .int .i64 k1, .int .i64 k2, .int .i64 k3] 23 _ 3 _ rfl rfl
  have hk1 : w.heap.size < (w.alloc (.cells #[.int .i64 k0, .int .i64 k1, .int .i64 k2, .int .i64 k3] 23)).heap.size := by simp
  have hkF : ¬ F w.heap.size := fun hk => by have := (h.flt _ hk).1; omega
  have Hfa := Lib.hid hfa
  have H1 := Lib.hid h1
  unfold qv
  simp only
  clear h h1 hfa
  go_enter Try.func21, Try.ntmps21
  go_wp2_with fail
  generalize hw1 : w.alloc (.cells #[.int .i64 k0, .int .i64 k1, .int .i64 k2, .int .i64 k3] 23) = w1 at *
  have Hw1 := Lib.hid hw1
  clear hw1
  generalize hkb : w.heap.size = kb at *
  have Hkb := Lib.hid hkb
  clear hkb
  refine P.out.mono ?_
  rintro e w2 ⟨⟨r, rfl, hr⟩, hb⟩
  have Hr := Lib.hid hr; clear hr
  have h2 := H1.out.below hb
  have hf2 : Fr F w w2 := ((Fr.of_below (S := F) (by rw [Hkb.out]; exact Hfa.out)).trans (U := F) (Fr.of_below (S := F) hb) (fun _ _ h => h) (fun _ _ h => h))
  have d0 := (hb.cell (p := ⟨kb, 0, none⟩) hk1).trans b0
  have d1 := (hb.cell (p := ⟨kb, 1, none⟩) hk1).trans b1
  have d2 := (hb.cell (p := ⟨kb, 2, none⟩) hk1).trans b2
  have d3 := (hb.cell (p := ⟨kb, 3, none⟩) hk1).trans b3
  clear b0 b1 b2 b3
  by_cases h0 : 0 ≤ r
  · obtain ⟨q, hq, rfl⟩ : ∃ q : Nat, q < l.length ∧ r = (q : Int) := by
      rcases Hr.out with ⟨h, _⟩ | ⟨q, hq, h, _⟩
      · omega
      · exact ⟨q, hq, h⟩
    obtain ⟨a, c, hc, ho, _⟩ := h2.row
    obtain ⟨g, cap, hv, _⟩ := ownsRow_cells ho (by omega)
    simp only [Value.slice.injEq, true_and] at hv
    obtain ⟨rfl, _⟩ := hv
    obtain ⟨hQ, hfz, hgp, hFg, hlc, hc9⟩ := h2.at_ hc
    obtain ⟨h3, hc3⟩ := h2.set hc q hq (k0, k1, k2, k3)
    have hf3 : Fr F w (set4 w2 g (q * 4) (k0, k1, k2, k3)) := hf2.trans (U := F) (set4_fr w2 g (q * 4) (k0, k1, k2, k3)) (fun _ _ h => h) (by rintro i _ rfl; exact hFg)
    obtain ⟨a0, a1, a2, a3⟩ := hQ q hq
    have fi0 := hfz (q * 4)
    have fi1 := hfz (q * 4 + 1)
    have fi2 := hfz (q * 4 + 2)
    have fi3 := hfz (q * 4 + 3)
    have hls : (l.set q (k0, k1, k2, k3)).length = l.length := List.length_set
    have hdl : (downL ltK (l.set q (k0, k1, k2, k3)) q).length = l.length := by rw [downL_length _ _ _ (Nat.le_refl _), hls]
    have hD := fun n => (down_any (h3.drewN n) q (by rw [hls]; exact hq) (by rw [hls]; exact hll))
    have E : Hid (chgL l (q : Int) (k0, k1, k2, k3) = upL ltK (downL ltK (l.set q (k0, k1, k2, k3)) q) q) := by show _ = _; unfold chgL; rw [if_pos h0]; simp
    have D : Hid (decide (0 ≤ (q : Int)) = true) := by show _ = _; simp
    have HD := Lib.hid hD
    have Hdl := Lib.hid hdl
    have Hf3 := Lib.hid hf3
    have hq0 : (0 : Int) ≤ (q : Int) := by omega
    have hqI : (q : Int) < (l.length : Int) := by omega
    obtain ⟨x0, hx0⟩ : ∃ x, l[q].1 = x := ⟨_, rfl⟩
    obtain ⟨x1, hx1⟩ : ∃ x, l[q].2.1 = x := ⟨_, rfl⟩
    obtain ⟨x2, hx2⟩ : ∃ x, l[q].2.2.1 = x := ⟨_, rfl⟩
    obtain ⟨x3, hx3⟩ : ∃ x, l[q].2.2.2 = x := ⟨_, rfl⟩
    rw [hx0] at a0
    rw [hx1] at a1
    rw [hx2] at a2
    rw [hx3] at a3
    clear hb hf2 h2 ho hQ hfz h3 hc3 hls hdl hD hf3 hx0 hx1 hx2 hx3
    go_wp2_with fail
    go_region
    all_goals (go_wp2_with fail)
    all_goals
      refine (HD.out 1).mono ?_
      rintro e w3 ⟨rfl, h4, hf4⟩
      have hU := Lib.hid (up_any h4 q (by rw [Hdl.out]; exact hq))
      have Hf4 := Lib.hid hf4
      clear h4 hf4
      go_wp2_with fail
      refine hU.out.mono ?_
      rintro e w4 ⟨rfl, h5, hf5⟩
      go_wp2_with fail
      go_ret
      exact ⟨(q : Int), Hr.out, by rw [D.out]; rfl, by rw [E.out]; exact h5, ((Hf3.out.drewN 1).trans (U := F) Hf4.out (fun _ _ h => h) (fun _ _ h => h)).trans hf5 (fun _ _ h => h) (fun _ _ h => h)⟩
  · have h0' : r < 0 := by omega
    have E : Hid (chgL l r (k0, k1, k2, k3) = l) := by show _ = _; unfold chgL; rw [if_neg h0]
    have D : Hid (decide (0 ≤ r) = false) := by show _ = _; simp; omega
    clear h0
    have HH2 := Lib.hid h2
    clear h2 hb
    go_wp2_with fail
    go_ret
    exact ⟨r, Hr.out, by rw [D.out]; rfl, by rw [E.out]; exact HH2.out, hf2⟩
end Go.Proofs.Ytaogdgbijjjpjaa
