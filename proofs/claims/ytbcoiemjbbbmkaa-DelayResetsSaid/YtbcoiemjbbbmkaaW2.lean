/- WALKS: what is asked of a guard; New's parts. -/
import Derived.Test.YtbcoiemjbbbmkaaW1
namespace Go.Proofs.Ytbcoiemjbbbmkaa
open Go.RowKit

set_option maxHeartbeats 400000 in
theorem open_any (p q cap N : Nat) (gs : List Gate) (i : Int) (w : World) (hg : GuardAt w p q cap N gs) :
    Calls Try.prog 12 #[.pointer (some ⟨p, 0, none⟩), .int .i64 i] w fun e w' => e = .returned (.tuple #[.int .i64 (openF gs i), .bool (decide (0 ≤ i ∧ i < gs.length))]) ∧ w = w' := by
  unfold openF
  by_cases h1 : 0 ≤ i ∧ i < gs.length
  · rw [if_pos h1, decide_eq_true h1]
    obtain ⟨k, rfl⟩ : ∃ k : Nat, i = (k : Int) := ⟨i.toNat, by omega⟩
    have hk : k < gs.length := by omega
    have hkI : (k : Int) < (gs.length : Int) := by omega
    have hl := hg.len
    have c1 := hg.opn k hk
    have hf := hg.fld
    have e : (gs.getD (k : Int).toNat default).opn = gs[k].opn := by simp [List.getD_eq_getElem?_getD, hk]
    rw [e]
    generalize gs[k].opn = o at *
    clear e
    go_enter Try.func12, Try.ntmps12
    go_wp2_with (go_at_call 17; refine (has_any p q cap N gs k _ hg).mono ?_; rintro e w' ⟨rfl, rfl⟩)
    go_ret2
    exact ⟨rfl, rfl⟩
  · rw [if_neg h1, decide_eq_false h1]
    go_enter Try.func12, Try.ntmps12
    go_wp2_with (go_at_call 17; refine (has_any p q cap N gs i _ hg).mono ?_; rintro e w' ⟨rfl, rfl⟩)
    go_ret2
    exact ⟨rfl, rfl⟩

set_option maxHeartbeats 400000 in
theorem count_any (p q cap N : Nat) (gs : List Gate) (i : Int) (w : World) (hg : GuardAt w p q cap N gs) :
    Calls Try.prog 13 #[.pointer (some ⟨p, 0, none⟩), .int .i64 i] w fun e w' => e = .returned (.int .i64 (countF gs i)) ∧ w = w' := by
  unfold countF
  by_cases h1 : 0 ≤ i ∧ i < gs.length
  · rw [if_pos h1]
    obtain ⟨k, rfl⟩ : ∃ k : Nat, i = (k : Int) := ⟨i.toNat, by omega⟩
    have hk : k < gs.length := by omega
    have hkI : (k : Int) < (gs.length : Int) := by omega
    have hl := hg.len
    have c1 := hg.ct k hk
    have hf := hg.fld
    have e : (gs.getD (k : Int).toNat default).count = gs[k].count := by simp [List.getD_eq_getElem?_getD, hk]
    rw [e]
    generalize gs[k].count = o at *
    clear e
    go_enter Try.func13, Try.ntmps13
    go_wp2_with (go_at_call 17; refine (has_any p q cap N gs k _ hg).mono ?_; rintro e w' ⟨rfl, rfl⟩)
    go_ret
    exact ⟨rfl, rfl⟩
  · rw [if_neg h1]
    go_enter Try.func13, Try.ntmps13
    go_wp2_with (go_at_call 17; refine (has_any p q cap N gs i _ hg).mono ?_; rintro e w' ⟨rfl, rfl⟩)
    go_ret
    exact ⟨rfl, rfl⟩

def wrongN (n : Int) : Bool := decide (n < 1 ∨ 1048576 < n)

set_option maxHeartbeats 400000 in
theorem wrong_any (n : Int) (w : World) :
    Calls Try.prog 15 #[.int .i64 n] w fun e w' => e = .returned (.bool (wrongN n)) ∧ w = w' := by
  unfold wrongN
  go_enter Try.func15, Try.ntmps15
  go_wp2
  all_goals (go_ret; exact ⟨ret_bool (by simp <;> omega), rfl⟩)

set_option maxHeartbeats 400000 in
theorem indexFunc_any (B : Nat) (a : Option Addr) (n c : Nat) (xs : List Int) (w : World) (hx : IntsIn B w a n xs) (hn : n ≤ 9223372036854775807) :
    Calls Try.prog 19 #[.slice a n c, .func (.func 15) #[] #[]] w fun e w' => (∃ r : Int, e = .returned (.int .i64 r) ∧ (decide (0 ≤ r) = xs.any wrongN)) ∧ w = w' := by
  obtain ⟨hlen, hx⟩ := hx
  go_enter Try.func19, Try.ntmps19
  go_wp2_with fail
  go_loop [8] (fun i => ∃ k : Nat, k ≤ n ∧ i = .int .i64 k ∧ (xs.take k).any wrongN = false) (fun i => n - (intOf i).toNat)
  case atStart => exact ⟨0, Nat.zero_le _, rfl, by simp⟩
  case round =>
    obtain ⟨k, hk, rfl, hall⟩ := hrel
    have Hall := Lib.hid hall; clear hall
    by_cases hlt : k < n
    · obtain ⟨b, off, rfl, hb, hc⟩ := hx (by omega)
      have c := hc k (by omega)
      have ht : (xs.take (k + 1)).any wrongN = ((xs.take k).any wrongN || wrongN xs[k]) := by
        rw [List.take_succ_eq_append_getElem (by omega), List.any_append]; simp
      rw [Hall.out] at ht
      have Ht := Lib.hid ht; clear ht
      have hm : xs[k] ∈ xs := List.getElem_mem _
      generalize xs[k] = x at *
      have Hx := Lib.hid hx
      clear hx hc
      cases hw : wrongN x
      · rw [hw] at Ht
        have wa := fun w => wrong_any x w
        rw [hw] at wa
        have Hw := Lib.hid hw; clear hw
        go_wp2_with (go_at_call 15; refine (wa _).mono ?_; rintro e w' ⟨rfl, rfl⟩)
        go_round
        case rel => exact ⟨k + 1, by omega, by go_num, by rw [Ht.out]; rfl⟩
        case measure => simp [intOf]; omega
      · have wa := fun w => wrong_any x w
        rw [hw] at wa
        have Hw := Lib.hid hw; clear hw
        go_wp2_with (go_at_call 15; refine (wa _).mono ?_; rintro e w' ⟨rfl, rfl⟩)
        go_ret
        exact ⟨⟨_, rfl, by rw [decide_eq_true (by omega)]; exact (List.any_eq_true.2 ⟨x, hm, Hw.out⟩).symm⟩, rfl⟩
    · go_wp2
      go_ret
      exact ⟨⟨_, rfl, by have := Hall.out; rw [List.take_of_length_le (by omega)] at this; rw [this]; rfl⟩, rfl⟩
end Go.Proofs.Ytbcoiemjbbbmkaa
