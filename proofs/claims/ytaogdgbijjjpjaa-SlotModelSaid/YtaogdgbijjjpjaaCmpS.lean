/- SLOTS: the order of what All answers: by from, then by id. -/
import Derived.Test.YtaogdgbijjjpjaaHeapQ
namespace Go.Proofs.Ytaogdgbijjjpjaa
open Go.RowKit
set_option linter.unusedVariables false

def cmpS (x y : Q) : Int := orL [cmp3 x.2.2.1 y.2.2.1, cmp3 x.1 y.1]
def ltS (x y : Q) : Bool := decide (cmpS x y < 0)
theorem ltS_iff (x y : Q) : ltS x y = true ↔ x.2.2.1 < y.2.2.1 ∨ x.2.2.1 = y.2.2.1 ∧ x.1 < y.1 := by
  unfold ltS cmpS
  rw [decide_eq_true_eq]
  simp only [orL]
  have h1 := cmp3_lt x.2.2.1 y.2.2.1
  have h2 := cmp3_lt x.1 y.1
  have h3 := cmp3_zero x.2.2.1 y.2.2.1
  have h4 := cmp3_zero x.1 y.1
  generalize cmp3 x.2.2.1 y.2.2.1 = u at *
  generalize cmp3 x.1 y.1 = v at *
  by_cases e1 : u = 0
  · rw [if_pos e1]
    by_cases e2 : v = 0
    · rw [if_pos e2]
      have := h3.1 e1; have := h4.1 e2; omega
    · rw [if_neg e2]
      have := h3.1 e1
      constructor
      · intro h; exact .inr ⟨this, h2.1 h⟩
      · rintro (h | ⟨_, h⟩)
        · omega
        · exact h2.2 h
  · rw [if_neg e1]
    constructor
    · intro h; exact .inl (h1.1 h)
    · rintro (h | ⟨h, _⟩)
      · exact h1.2 h
      · exact absurd (h3.2 h) e1
theorem ltS_not (x y : Q) : ltS x y = false ↔ ¬ (x.2.2.1 < y.2.2.1 ∨ x.2.2.1 = y.2.2.1 ∧ x.1 < y.1) := by rw [← ltS_iff]; simp

set_option maxHeartbeats 2000000 in
theorem cmpS_any (x y : Q) (w : World) : Calls Try.prog 54 #[qv x, qv y] w fun e w' => e = .returned (.int .i64 (cmpS x y)) ∧ ∃ q os', w' = Sort.grow (w.drewN q) os' := by
  obtain ⟨x0, x1, x2, x3⟩ := x
  obtain ⟨y0, y1, y2, y3⟩ := y
  unfold cmpS qv
  simp only
  have H1 := Lib.hid (fun w => compare_any x2 y2 w)
  have H2 := Lib.hid (fun w => compare_any x0 y0 w)
  generalize cmp3 x2 y2 = u0 at *
  generalize cmp3 x0 y0 = u1 at *
  obtain ⟨R, hR⟩ : ∃ R, orL [u0, u1] = R := ⟨_, rfl⟩
  rw [hR]
  have HO : Hid (∀ (W : World) (b : Nat), (∀ j u, [Value.int .i64 u0, Value.int .i64 u1][j]? = some u → W.cell? ⟨b, j, none⟩ = some u) → Calls Try.prog 40 #[.slice (some ⟨b, 0, none⟩) 2 2] W fun e w' => e = .returned (.int .i64 R) ∧ W = w') := by
    intro W b hc
    rw [← hR]
    refine or_any b 2 [u0, u1] _ rfl (by omega) fun j hj => ?_
    refine hc j _ ?_
    have : j = 0 ∨ j = 1 := by simp at hj; omega
    rcases this with rfl | rfl <;> rfl
  clear hR
  go_enter Try.func54, Try.ntmps54
  go_wp2_with fail
  go_region_held3 (fun w' => (w'.cell? ⟨w.heap.size, 0, none⟩ = some (.int .i64 x0) ∧ w'.cell? ⟨w.heap.size, 1, none⟩ = some (.int .i64 x1) ∧ w'.cell? ⟨w.heap.size, 2, none⟩ = some (.int .i64 x2) ∧ w'.cell? ⟨w.heap.size, 3, none⟩ = some (.int .i64 x3)) ∧ w'.cell? ⟨w.heap.size + 1, 0, none⟩ = some (.int .i64 y0) ∧ w'.cell? ⟨w.heap.size + 1, 1, none⟩ = some (.int .i64 y1) ∧ w'.cell? ⟨w.heap.size + 1, 2, none⟩ = some (.int .i64 y2) ∧ w'.cell? ⟨w.heap.size + 1, 3, none⟩ = some (.int .i64 y3)) (go_keep)
    (first | (go_at_call 41; (first | ((with_reducible refine (H1.out _).mono ?_); rintro e w1 ⟨rfl, rfl⟩) | ((with_reducible refine (H2.out _).mono ?_); rintro e w1 ⟨rfl, rfl⟩))) | (go_at_call 40; refine Calls.mono (HO.out _ _ ?_) ?_; (intro j u hu; exact cell_newb _ _ _ _ j u (by simp) hu); rintro e w1 ⟨rfl, rfl⟩))
  go_wp2_with fail
  go_ret
  exact ⟨rfl, 1, #[.cells #[.int .i64 x0, .int .i64 x1, .int .i64 x2, .int .i64 x3] 59, .cells #[.int .i64 y0, .int .i64 y1, .int .i64 y2, .int .i64 y3] 59, .cells #[.int .i64 u0, .int .i64 u1] 3], by simp only [Sort.alloc_eq_grow, Sort.grow_grow]; rfl⟩
end Go.Proofs.Ytaogdgbijjjpjaa
