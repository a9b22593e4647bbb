/- WALKS: what compares. -/
import Derived.Test.YthmbbbdnfgefbaaW1
import Derived.Deep.RegionHeld3
import Derived.Sort.Grow
namespace Go.Proofs.Ythmbbbdnfgefbaa
open Go.RowKit
set_option linter.unusedVariables false

def cmp3 (a b : Int) : Int := if a < b then -1 else if b < a then 1 else 0

theorem nan_any (a : Int) (w : World) : Calls Try.prog 54 #[.int .i64 a] w fun e w' => e = .returned (.bool false) ∧ w = w' := by
  go_enter Try.func54, Try.ntmps54
  go_wp2
  go_ret
  exact ⟨by simp, rfl⟩

set_option maxHeartbeats 400000 in
theorem compare_any (a b : Int) (w : World) : Calls Try.prog 41 #[.int .i64 a, .int .i64 b] w fun e w' => e = .returned (.int .i64 (cmp3 a b)) ∧ w = w' := by
  unfold cmp3
  by_cases h1 : a < b
  · rw [if_pos h1]
    go_enter Try.func41, Try.ntmps41
    go_wp2_with (go_at_call 54; refine (nan_any _ _).mono ?_; rintro e w' ⟨rfl, rfl⟩)
    go_ret
    exact ⟨rfl, rfl⟩
  · rw [if_neg h1]
    by_cases h2 : b < a
    · rw [if_pos h2]
      go_enter Try.func41, Try.ntmps41
      go_wp2_with (go_at_call 54; refine (nan_any _ _).mono ?_; rintro e w' ⟨rfl, rfl⟩)
      go_ret
      exact ⟨rfl, rfl⟩
    · rw [if_neg h2]
      go_enter Try.func41, Try.ntmps41
      go_wp2_with (go_at_call 54; refine (nan_any _ _).mono ?_; rintro e w' ⟨rfl, rfl⟩)
      go_ret
      exact ⟨rfl, rfl⟩

def or2 (x y : Int) : Int := if x ≠ 0 then x else y

set_option maxHeartbeats 1000000 in
theorem or_two (b : Nat) (x y : Int) (w : World) (c0 : w.cell? ⟨b, 0, none⟩ = some (.int .i64 x)) (c1 : w.cell? ⟨b, 1, none⟩ = some (.int .i64 y)) :
    Calls Try.prog 40 #[.slice (some ⟨b, 0, none⟩) 2 2] w fun e w' => e = .returned (.int .i64 (or2 x y)) ∧ w = w' := by
  go_enter Try.func40, Try.ntmps40
  go_wp2_with fail
  go_loop [8] (fun i => ∃ k : Nat, k ≤ 2 ∧ i = .int .i64 k ∧ Hid ((0 < k → x = 0) ∧ (1 < k → y = 0))) (fun i => 2 - (intOf i).toNat)
  case atStart => exact ⟨0, by omega, rfl, ⟨by omega, by omega⟩⟩
  case round =>
    obtain ⟨k, hk, rfl, HH⟩ := hrel
    by_cases hlt : k < 2
    · by_cases h0 : k = 0
      · subst h0
        by_cases hx : x = 0
        · have hxn : (x != 0) = false := by simp [hx]
          have Hx := Lib.hid hx; clear hx
          go_wp2_with fail
          go_round
          case rel => exact ⟨1, by omega, rfl, ⟨fun _ => Hx.out, by omega⟩⟩
          case measure => simp [intOf]
        · have e := Lib.hid (show or2 x y = x by simp [or2, hx])
          have hxn : (x != 0) = true := by simp [hx]
          go_wp2_with fail
          go_ret
          exact ⟨ret_int e.out.symm, rfl⟩
      · obtain rfl : k = 1 := by omega
        have Hx := Lib.hid (HH.out.1 (by omega))
        by_cases hy : y = 0
        · have hyn : (y != 0) = false := by simp [hy]
          have Hy := Lib.hid hy; clear hy
          go_wp2_with fail
          go_round
          case rel => exact ⟨2, by omega, rfl, ⟨fun _ => Hx.out, fun _ => Hy.out⟩⟩
          case measure => simp [intOf]
        · have hyn : (y != 0) = true := by simp [hy]
          go_wp2_with fail
          go_ret
          exact ⟨ret_int (by unfold or2; rw [if_neg (by simp [Hx.out])]), rfl⟩
    · obtain rfl : k = 2 := by omega
      have Hx := Lib.hid (HH.out.1 (by omega))
      have Hy := Lib.hid (HH.out.2 (by omega))
      go_wp2_with fail
      go_ret
      exact ⟨ret_int (by unfold or2; rw [if_neg (by simp [Hx.out]), Hy.out]), rfl⟩

/-- How entries compare. -/
def cmpD (x y : Int × Int) : Int := or2 (cmp3 x.1 y.1) (cmp3 x.2 y.2)

set_option maxHeartbeats 1000000 in
theorem before_any (x y : Int × Int) (w : World) : Calls Try.prog 34 #[.agg #[.int .i64 x.1, .int .i64 x.2], .agg #[.int .i64 y.1, .int .i64 y.2]] w fun e w' => e = .returned (.int .i64 (cmpD x y)) ∧
    ∃ q os', w' = Sort.grow (w.drewN q) os' := by
  unfold cmpD
  have H1 := Lib.hid (fun w => compare_any x.1 y.1 w)
  have H2 := Lib.hid (fun w => compare_any x.2 y.2 w)
  generalize cmp3 x.1 y.1 = u at *
  generalize cmp3 x.2 y.2 = v at *
  go_enter Try.func34, Try.ntmps34
  go_wp2_with fail
  go_region_held3 (fun w' => w'.cell? ⟨w.heap.size, 0, none⟩ = some (.int .i64 x.1) ∧ w'.cell? ⟨w.heap.size, 1, none⟩ = some (.int .i64 x.2) ∧ w'.cell? ⟨w.heap.size + 1, 0, none⟩ = some (.int .i64 y.1) ∧ w'.cell? ⟨w.heap.size + 1, 1, none⟩ = some (.int .i64 y.2)) (go_keep)
    (first | (go_at_call 41; (first | ((with_reducible refine (H1.out _).mono ?_); rintro e w1 ⟨rfl, rfl⟩) | ((with_reducible refine (H2.out _).mono ?_); rintro e w1 ⟨rfl, rfl⟩))) | (go_at_call 40; refine Calls.mono (or_two _ u v _ ?_ ?_) ?_; (exact cell_newb _ _ _ _ 0 _ (by simp) rfl); (exact cell_newb _ _ _ _ 1 _ (by simp) rfl); rintro e w1 ⟨rfl, rfl⟩))
  go_wp2_with fail
  go_ret
  exact ⟨rfl, 1, #[.cells #[.int .i64 x.1, .int .i64 x.2] 30, .cells #[.int .i64 y.1, .int .i64 y.2] 30, .cells #[.int .i64 u, .int .i64 v] 3], by simp only [Sort.alloc_eq_grow, Sort.grow_grow]; rfl⟩
end Go.Proofs.Ythmbbbdnfgefbaa
