/- WALKS: what compares. -/
import Derived.Test.YtaogdgbijjjpjaaRows
import Derived.Test.YtaogdgbijjjpjaaCore
import Derived.Deep.DeepCutAuto
import Derived.Deep.QuietTactic
import Derived.BigQuiet
import Derived.RegionTactic
import Derived.Deep.RegionHeld3
import Derived.Deep.RegionLaw
import Derived.Deep.DrawnRows
import Derived.Sort.Grow
namespace Go.Proofs.Ytaogdgbijjjpjaa
open Go.RowKit
set_option linter.unusedVariables false
attribute [local go_sem ↓] Go.wp_at_zero Go.wp_at_succ

def cmp3 (a b : Int) : Int := if a < b then -1 else if b < a then 1 else 0

theorem nan_any (a : Int) (w : World) : Calls Try.prog 56 #[.int .i64 a] w fun e w' => e = .returned (.bool false) ∧ w = w' := by
  go_enter Try.func56, Try.ntmps56
  go_wp2
  go_ret
  exact ⟨by simp, rfl⟩

set_option maxHeartbeats 400000 in
theorem compare_any (a b : Int) (w : World) : Calls Try.prog 41 #[.int .i64 a, .int .i64 b] w fun e w' => e = .returned (.int .i64 (cmp3 a b)) ∧ w = w' := by
  unfold cmp3
  by_cases h1 : a < b
  · rw [if_pos h1]
    go_enter Try.func41, Try.ntmps41
    go_wp2_with (go_at_call 56; refine (nan_any _ _).mono ?_; rintro e w' ⟨rfl, rfl⟩)
    go_ret
    exact ⟨rfl, rfl⟩
  · rw [if_neg h1]
    by_cases h2 : b < a
    · rw [if_pos h2]
      go_enter Try.func41, Try.ntmps41
      go_wp2_with (go_at_call 56; refine (nan_any _ _).mono ?_; rintro e w' ⟨rfl, rfl⟩)
      go_ret
      exact ⟨rfl, rfl⟩
    · rw [if_neg h2]
      go_enter Try.func41, Try.ntmps41
      go_wp2_with (go_at_call 56; refine (nan_any _ _).mono ?_; rintro e w' ⟨rfl, rfl⟩)
      go_ret
      exact ⟨rfl, rfl⟩

/-- The first of a list that is not zero. -/
def orL : List Int → Int
  | [] => 0
  | x :: l => if x = 0 then orL l else x
theorem orL_drop (l : List Int) (k : Nat) (h : ∀ j (hj : j < l.length), j < k → l[j] = 0) : orL l = orL (l.drop k) := by
  induction k generalizing l with
  | zero => rfl
  | succ k ih =>
    cases l with
    | nil => rfl
    | cons x l =>
      have hx : x = 0 := h 0 (by simp) (by omega)
      simp only [orL, hx, if_true, List.drop_succ_cons]
      exact ih l fun j hj hk => h (j + 1) (by simp; omega) (by omega)

set_option maxHeartbeats 1000000 in
theorem or_any (b n : Nat) (l : List Int) (w : World) (hl : l.length = n) (hn : n ≤ 100) (hc : ∀ j (h : j < l.length), w.cell? ⟨b, j, none⟩ = some (.int .i64 l[j])) :
    Calls Try.prog 40 #[.slice (some ⟨b, 0, none⟩) n n] w fun e w' => e = .returned (.int .i64 (orL l)) ∧ w = w' := by
  have HC := Lib.hid hc; clear hc
  go_enter Try.func40, Try.ntmps40
  go_wp2_with fail
  go_loop [8] (fun i => ∃ k : Nat, k ≤ n ∧ i = .int .i64 k ∧ Hid (∀ j (hj : j < l.length), j < k → l[j] = 0)) (fun i => n - (intOf i).toNat)
  case atStart => exact ⟨0, by omega, rfl, fun j hj hk => by omega⟩
  case round =>
    obtain ⟨k, hk, rfl, HH⟩ := hrel
    by_cases hlt : k < n
    · have hcell := HC.out k (by omega)
      obtain ⟨x, hx⟩ : ∃ x, l[k] = x := ⟨_, rfl⟩
      rw [hx] at hcell
      have Hx := Lib.hid hx; clear hx
      have hkI : (k : Int) < (n : Int) := by omega
      by_cases h0 : x = 0
      · subst h0
        have HN : Hid (∀ j (hj : j < l.length), j < k + 1 → l[j] = 0) := by
          intro j hj hjk
          rcases Nat.lt_or_ge j k with h | h
          · exact HH.out j hj h
          · obtain rfl : j = k := by omega
            exact Hx.out
        go_wp2_with fail
        go_round
        case rel => exact ⟨k + 1, by omega, by go_num, HN⟩
        case measure => simp [intOf]; omega
      · have hxn : (x != 0) = true := by simp [h0]
        have E : Hid (orL l = x) := by
          show _ = _
          rw [orL_drop l k HH.out, List.drop_eq_getElem_cons (by omega), Hx.out]
          simp [orL, h0]
        clear h0
        go_wp2_with fail
        go_ret
        exact ⟨ret_int E.out.symm, rfl⟩
    · obtain rfl : k = n := by omega
      have E : Hid (orL l = 0) := by
        show _ = _
        rw [orL_drop l k HH.out, List.drop_eq_nil_of_le (by omega)]; rfl
      go_wp2_with fail
      go_ret
      exact ⟨ret_int E.out.symm, rfl⟩

/-- How keys compare. -/
def cmpK (x y : Q) : Int := orL [cmp3 x.1 y.1, cmp3 x.2.1 y.2.1, cmp3 x.2.2.1 y.2.2.1, cmp3 x.2.2.2 y.2.2.2]

set_option maxHeartbeats 2000000 in
theorem cmpK_any (x y : Q) (w : World) : Calls Try.prog 15 #[qv x, qv y] w fun e w' => e = .returned (.int .i64 (cmpK x y)) ∧ ∃ q os', w' = Sort.grow (w.drewN q) os' := by
  obtain ⟨x0, x1, x2, x3⟩ := x
  obtain ⟨y0, y1, y2, y3⟩ := y
  unfold cmpK qv
  simp only
  have H1 := Lib.hid (fun w => compare_any x0 y0 w)
  have H2 := Lib.hid (fun w => compare_any x1 y1 w)
  have H3 := Lib.hid (fun w => compare_any x2 y2 w)
  have H4 := Lib.hid (fun w => compare_any x3 y3 w)
  generalize cmp3 x0 y0 = u0 at *
  generalize cmp3 x1 y1 = u1 at *
  generalize cmp3 x2 y2 = u2 at *
  generalize cmp3 x3 y3 = u3 at *
  obtain ⟨R, hR⟩ : ∃ R, orL [u0, u1, u2, u3] = R := ⟨_, rfl⟩
  rw [hR]
  have HO : Hid (∀ (W : World) (b : Nat), (∀ j u, [Value.int .i64 u0, Value.int .i64 u1, Value.int .i64 u2, Value.int .i64 u3][j]? = some u → W.cell? ⟨b, j, none⟩ = some u) → Calls Try.prog 40 #[.slice (some ⟨b, 0, none⟩) 4 4] W fun e w' => e = .returned (.int .i64 R) ∧ W = w') := by
    intro W b hc
    rw [← hR]
    refine or_any b 4 [u0, u1, u2, u3] _ rfl (by omega) fun j hj => ?_
    refine hc j _ ?_
    have : j = 0 ∨ j = 1 ∨ j = 2 ∨ j = 3 := by simp at hj; omega
    rcases this with rfl | rfl | rfl | rfl <;> rfl
  clear hR
  go_enter Try.func15, Try.ntmps15
  go_wp2_with fail
  go_region_held3 (fun w' => (w'.cell? ⟨w.heap.size, 0, none⟩ = some (.int .i64 x0) ∧ w'.cell? ⟨w.heap.size, 1, none⟩ = some (.int .i64 x1) ∧ w'.cell? ⟨w.heap.size, 2, none⟩ = some (.int .i64 x2) ∧ w'.cell? ⟨w.heap.size, 3, none⟩ = some (.int .i64 x3)) ∧ w'.cell? ⟨w.heap.size + 1, 0, none⟩ = some (.int .i64 y0) ∧ w'.cell? ⟨w.heap.size + 1, 1, none⟩ = some (.int .i64 y1) ∧ w'.cell? ⟨w.heap.size + 1, 2, none⟩ = some (.int .i64 y2) ∧ w'.cell? ⟨w.heap.size + 1, 3, none⟩ = some (.int .i64 y3)) (go_keep)
    (first | (go_at_call 41; (first | ((with_reducible refine (H1.out _).mono ?_); rintro e w1 ⟨rfl, rfl⟩) | ((with_reducible refine (H2.out _).mono ?_); rintro e w1 ⟨rfl, rfl⟩) | ((with_reducible refine (H3.out _).mono ?_); rintro e w1 ⟨rfl, rfl⟩) | ((with_reducible refine (H4.out _).mono ?_); rintro e w1 ⟨rfl, rfl⟩))) | (go_at_call 40; refine Calls.mono (HO.out _ _ ?_) ?_; (intro j u hu; exact cell_newb _ _ _ _ j u (by simp) hu); rintro e w1 ⟨rfl, rfl⟩))
  go_wp2_with fail
  go_ret
  exact ⟨rfl, 1, #[.cells #[.int .i64 x0, .int .i64 x1, .int .i64 x2, .int .i64 x3] 23, .cells #[.int .i64 y0, .int .i64 y1, .int .i64 y2, .int .i64 y3] 23, .cells #[.int .i64 u0, .int .i64 u1, .int .i64 u2, .int .i64 u3] 3], by simp only [Sort.alloc_eq_grow, Sort.grow_grow]; rfl⟩
end Go.Proofs.Ytaogdgbijjjpjaa
