/- KEYS, plain: how they compare is a strict total order. -/
import Derived.Test.YtaogdgbijjjpjaaW1
import Derived.Test.YtaogdgbijjjpjaaHeapP
namespace Go.Proofs.Ytaogdgbijjjpjaa
open Go.RowKit
set_option linter.unusedVariables false

theorem cmp3_neg (a b : Int) : cmp3 a b = -cmp3 b a := by unfold cmp3; split <;> split <;> omega
theorem cmp3_zero (a b : Int) : cmp3 a b = 0 ↔ a = b := by
  unfold cmp3
  by_cases h1 : a < b
  · rw [if_pos h1]; omega
  · rw [if_neg h1]
    by_cases h2 : b < a
    · rw [if_pos h2]; omega
    · rw [if_neg h2]; omega
theorem cmp3_lt (a b : Int) : cmp3 a b < 0 ↔ a < b := by
  unfold cmp3
  by_cases h1 : a < b
  · rw [if_pos h1]; omega
  · rw [if_neg h1]
    by_cases h2 : b < a
    · rw [if_pos h2]; omega
    · rw [if_neg h2]; omega
theorem cmpK_neg (x y : Q) : cmpK x y = -cmpK y x := by
  unfold cmpK
  rw [cmp3_neg x.1 y.1, cmp3_neg x.2.1 y.2.1, cmp3_neg x.2.2.1 y.2.2.1, cmp3_neg x.2.2.2 y.2.2.2]
  simp only [orL]
  by_cases h1 : cmp3 y.1 x.1 = 0
  · by_cases h2 : cmp3 y.2.1 x.2.1 = 0
    · by_cases h3 : cmp3 y.2.2.1 x.2.2.1 = 0
      · by_cases h4 : cmp3 y.2.2.2 x.2.2.2 = 0 <;> simp [h1, h2, h3, h4]
      · simp [h1, h2, h3]
    · simp [h1, h2]
  · simp [h1]
def ltK (x y : Q) : Bool := decide (cmpK x y < 0)
theorem ltK_iff (x y : Q) : ltK x y = true ↔ x.1 < y.1 ∨ x.1 = y.1 ∧ (x.2.1 < y.2.1 ∨ x.2.1 = y.2.1 ∧ (x.2.2.1 < y.2.2.1 ∨ x.2.2.1 = y.2.2.1 ∧ x.2.2.2 < y.2.2.2)) := by
  unfold ltK cmpK
  rw [decide_eq_true_eq]
  simp only [orL]
  have l1 := cmp3_lt x.1 y.1
  have l2 := cmp3_lt x.2.1 y.2.1
  have l3 := cmp3_lt x.2.2.1 y.2.2.1
  have l4 := cmp3_lt x.2.2.2 y.2.2.2
  have z1 := cmp3_zero x.1 y.1
  have z2 := cmp3_zero x.2.1 y.2.1
  have z3 := cmp3_zero x.2.2.1 y.2.2.1
  have z4 := cmp3_zero x.2.2.2 y.2.2.2
  by_cases h1 : cmp3 x.1 y.1 = 0
  · rw [if_pos h1]
    have e1 := z1.1 h1
    by_cases h2 : cmp3 x.2.1 y.2.1 = 0
    · rw [if_pos h2]
      have e2 := z2.1 h2
      by_cases h3 : cmp3 x.2.2.1 y.2.2.1 = 0
      · rw [if_pos h3]
        have e3 := z3.1 h3
        by_cases h4 : cmp3 x.2.2.2 y.2.2.2 = 0
        · rw [if_pos h4]; have e4 := z4.1 h4; omega
        · rw [if_neg h4, l4]; omega
      · rw [if_neg h3, l3]
        have e3 : ¬ x.2.2.1 = y.2.2.1 := fun e => h3 (z3.2 e)
        omega
    · rw [if_neg h2, l2]
      have e2 : ¬ x.2.1 = y.2.1 := fun e => h2 (z2.2 e)
      omega
  · rw [if_neg h1, l1]
    have e1 : ¬ x.1 = y.1 := fun e => h1 (z1.2 e)
    omega
theorem ltK_not (x y : Q) : ltK x y = false ↔ ¬ (x.1 < y.1 ∨ x.1 = y.1 ∧ (x.2.1 < y.2.1 ∨ x.2.1 = y.2.1 ∧ (x.2.2.1 < y.2.2.1 ∨ x.2.2.1 = y.2.2.1 ∧ x.2.2.2 < y.2.2.2))) := by rw [← ltK_iff]; simp
theorem totK : Tot ltK where
  irr x := by rw [ltK_not]; omega
  tr x y z h1 h2 := by rw [ltK_iff] at *; omega
  tri x y h1 h2 := by
    rw [ltK_not] at *
    exact Prod.ext (by omega) (Prod.ext (by omega) (Prod.ext (by omega) (by omega)))
theorem ltK_le (x y : Q) : (decide (cmpK x y ≤ 0)) = !ltK y x := by
  unfold ltK
  rw [cmpK_neg x y]
  by_cases h : cmpK y x < 0
  · rw [decide_eq_true h, decide_eq_false (by omega)]; rfl
  · rw [decide_eq_false h, decide_eq_true (by omega)]; rfl
theorem cmpK_zero (x y : Q) : cmpK x y = 0 ↔ x = y := by
  constructor
  · intro h
    refine totK.tri x y ?_ ?_
    · unfold ltK; simp [h]
    · unfold ltK; rw [cmpK_neg]; simp [h]
  · rintro rfl
    have h1 := totK.irr x
    unfold ltK at h1
    have h2 := cmpK_neg x x
    simp at h1; omega
end Go.Proofs.Ytaogdgbijjjpjaa
