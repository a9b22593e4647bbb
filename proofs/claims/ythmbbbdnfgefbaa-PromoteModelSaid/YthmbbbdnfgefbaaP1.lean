/- WALKS: promote's small functions: what may wait, sums of times. -/
import Derived.Test.YthmbbbdnfgefbaaW1
namespace Go.Proofs.Ythmbbbdnfgefbaa
open Go.RowKit
set_option linter.unusedVariables false

def timB (a : Int) : Bool := decide (0 ≤ a ∧ a ≤ 4611686018427387904)

theorem time_any (a : Int) (w : World) : Calls Try.prog 42 #[.int .i64 a] w fun e w' => e = .returned (.bool (timB a)) ∧ w = w' := by
  by_cases h1 : 0 ≤ a
  · by_cases h2 : a ≤ 4611686018427387904
    · have E : Hid (timB a = true) := by show _ = _; unfold timB; simp; omega
      go_enter Try.func42, Try.ntmps42
      go_wp2_with fail
      go_ret
      exact ⟨ret_bool E.out.symm, rfl⟩
    · have E : Hid (timB a = false) := by show _ = _; unfold timB; simp; omega
      have h2' : 4611686018427387904 < a := by omega
      go_enter Try.func42, Try.ntmps42
      go_wp2_with fail
      go_ret
      exact ⟨by rw [E.out]; simp, rfl⟩
  · have E : Hid (timB a = false) := by show _ = _; unfold timB; simp; omega
    have h1' : a < 0 := by omega
    go_enter Try.func42, Try.ntmps42
    go_wp2_with fail
    go_ret
    exact ⟨by rw [E.out]; simp, rfl⟩

def offM (d r : Int) : Int × Bool := if r < 1 ∨ d < r then (0, false) else (d - r, true)

theorem offset_any (d r : Int) (w : World) (hd : d ≤ 9223372036854775807) : Calls Try.prog 28 #[.int .i64 d, .int .i64 r] w fun e w' => e = .returned (.tuple #[.int .i64 (offM d r).1, .bool (offM d r).2]) ∧ w = w' := by
  by_cases h1 : r < 1
  · have E : Hid (offM d r = (0, false)) := by show _ = _; unfold offM; rw [if_pos (by omega)]
    go_enter Try.func28, Try.ntmps28
    go_wp2_with fail
    go_ret2
    rw [E.out]
    exact ⟨rfl, rfl⟩
  · have h1' : 1 ≤ r := by omega
    by_cases h2 : d < r
    · have E : Hid (offM d r = (0, false)) := by show _ = _; unfold offM; rw [if_pos (by omega)]
      go_enter Try.func28, Try.ntmps28
      go_wp2_with fail
      go_ret2
      rw [E.out]
      exact ⟨rfl, rfl⟩
    · have h2' : r ≤ d := by omega
      have E : Hid (offM d r = (d - r, true)) := by show _ = _; unfold offM; rw [if_neg (by omega)]
      go_enter Try.func28, Try.ntmps28
      go_wp2_with fail
      go_ret2
      rw [E.out]
      exact ⟨rfl, rfl⟩

def tim (a : Int) : Prop := 0 ≤ a ∧ a ≤ 4611686018427387904
instance (a : Int) : Decidable (tim a) := by unfold tim; exact inferInstance
def sumM (a b : Int) : Int × Bool := if tim a ∧ tim b ∧ a ≤ 4611686018427387904 - b then (a + b, true) else (0, false)

theorem tickAdd_any (a b : Int) (w : World) : Calls Try.prog 35 #[.int .i64 a, .int .i64 b] w fun e w' => e = .returned (.tuple #[.int .i64 (sumM a b).1, .bool (sumM a b).2]) ∧ w = w' := by
  have TA := Lib.hid (fun w => time_any a w)
  have TB := Lib.hid (fun w => time_any b w)
  obtain ⟨ta, hta⟩ : ∃ t, timB a = t := ⟨_, rfl⟩
  obtain ⟨tb, htb⟩ : ∃ t, timB b = t := ⟨_, rfl⟩
  have TA' := Lib.hid (fun w => by have := TA.out w; rw [hta] at this; exact this)
  have TB' := Lib.hid (fun w => by have := TB.out w; rw [htb] at this; exact this)
  clear TA TB
  cases ta
  · have E : Hid (sumM a b = (0, false)) := by show _ = _; unfold sumM tim; rw [if_neg (by simp [timB] at hta; omega)]
    clear hta htb
    go_enter Try.func35, Try.ntmps35
    go_wp2_with (first | (go_at_call 42; (with_reducible refine (TA'.out _).mono ?_); rintro e w' ⟨rfl, rfl⟩) | (go_at_call 42; (with_reducible refine (TB'.out _).mono ?_); rintro e w' ⟨rfl, rfl⟩))
    go_ret2
    rw [E.out]
    exact ⟨rfl, rfl⟩
  · cases tb
    · have E : Hid (sumM a b = (0, false)) := by show _ = _; unfold sumM tim; rw [if_neg (by simp [timB] at htb; omega)]
      clear hta htb
      go_enter Try.func35, Try.ntmps35
      go_wp2_with (first | (go_at_call 42; (with_reducible refine (TA'.out _).mono ?_); rintro e w' ⟨rfl, rfl⟩) | (go_at_call 42; (with_reducible refine (TB'.out _).mono ?_); rintro e w' ⟨rfl, rfl⟩))
      go_ret2
      rw [E.out]
      exact ⟨rfl, rfl⟩
    · have ha : 0 ≤ a ∧ a ≤ 4611686018427387904 := by simpa [timB] using hta
      have hb : 0 ≤ b ∧ b ≤ 4611686018427387904 := by simpa [timB] using htb
      obtain ⟨a1, a2⟩ := ha
      obtain ⟨b1, b2⟩ := hb
      clear hta htb
      by_cases h3 : a ≤ 4611686018427387904 - b
      · have E : Hid (sumM a b = (a + b, true)) := by show _ = _; unfold sumM tim; rw [if_pos ⟨⟨a1, a2⟩, ⟨b1, b2⟩, h3⟩]
        go_enter Try.func35, Try.ntmps35
        go_wp2_with (first | (go_at_call 42; (with_reducible refine (TA'.out _).mono ?_); rintro e w' ⟨rfl, rfl⟩) | (go_at_call 42; (with_reducible refine (TB'.out _).mono ?_); rintro e w' ⟨rfl, rfl⟩))
        go_ret2
        rw [E.out]
        exact ⟨rfl, rfl⟩
      · have E : Hid (sumM a b = (0, false)) := by show _ = _; unfold sumM tim; rw [if_neg (by omega)]
        have h3' : 4611686018427387904 - b < a := by omega
        go_enter Try.func35, Try.ntmps35
        go_wp2_with (first | (go_at_call 42; (with_reducible refine (TA'.out _).mono ?_); rintro e w' ⟨rfl, rfl⟩) | (go_at_call 42; (with_reducible refine (TB'.out _).mono ?_); rintro e w' ⟨rfl, rfl⟩))
        go_ret2
        rw [E.out]
        exact ⟨rfl, rfl⟩
end Go.Proofs.Ythmbbbdnfgefbaa
