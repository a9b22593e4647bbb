/- WALKS: the guard's methods. -/
import Derived.Test.YtbcoiemjbbbmkaaRows
import Derived.Test.YtbcoiemjbbbmkaaCore
import Derived.Lib.Hide
namespace Go.Proofs.Ytbcoiemjbbbmkaa
open Go.RowKit

theorem ret_bool {a b : Bool} (h : a = b) : Ending.returned (.bool a) = .returned (.bool b) := by rw [h]
theorem ret_int {k : IntKind} {a b : Int} (h : a = b) : Ending.returned (.int k a) = .returned (.int k b) := by rw [h]

set_option maxHeartbeats 400000 in
theorem has_any (p q cap N : Nat) (gs : List Gate) (i : Int) (w : World) (hg : GuardAt w p q cap N gs) :
    Calls Try.prog 17 #[.pointer (some ⟨p, 0, none⟩), .int .i64 i] w fun e w' => e = .returned (.bool (decide (0 ≤ i ∧ i < gs.length))) ∧ w = w' := by
  have hf := hg.fld
  have hl := hg.len
  clear hg
  generalize gs.length = n at hf hl ⊢
  go_enter Try.func17, Try.ntmps17
  go_wp2
  all_goals (go_ret; exact ⟨ret_bool (by simp; omega), rfl⟩)

set_option maxHeartbeats 400000 in
theorem time_any (i : Int) (w : World) :
    Calls Try.prog 20 #[.int .i64 i] w fun e w' => e = .returned (.bool (decide (0 ≤ i ∧ i ≤ 4611686018427387904))) ∧ w = w' := by
  go_enter Try.func20, Try.ntmps20
  go_wp2
  all_goals (go_ret; exact ⟨ret_bool (by simp; omega), rfl⟩)

set_option maxHeartbeats 400000 in
theorem add_fits (a b : Int) (w : World) (ha : 0 ≤ a) (ha' : a ≤ 1099511627776) (hb : 0 ≤ b) (hb' : b ≤ 1048576) :
    Calls Try.prog 18 #[.int .i64 a, .int .i64 b] w fun e w' => e = .returned (.tuple #[.int .i64 (a + b), .bool true]) ∧ w = w' := by
  go_enter Try.func18, Try.ntmps18
  go_wp2_with (go_at_call 20; refine (time_any _ _).mono ?_; rintro e w' ⟨rfl, rfl⟩)


  all_goals go_ret2
  all_goals exact ⟨rfl, rfl⟩


set_option maxHeartbeats 400000 in
theorem go_any (p q cap N : Nat) (gs : List Gate) (i t : Int) (w : World) (hg : GuardAt w p q cap N gs) (hN : N ≤ 1000000) :
    Calls Try.prog 11 #[.pointer (some ⟨p, 0, none⟩), .int .i64 i, .int .i64 t] w fun e w' =>
      e = .returned (.int .i64 (goStep gs i t).1) ∧ GuardAt w' p q cap (N + 1) (goStep gs i t).2 ∧ Fr (· = q) w w' := by
  by_cases h1 : i < 0 ∨ gs.length ≤ i ∨ t < 0 ∨ 1099511627776 < t
  · rw [show goStep gs i t = (1, gs) from by unfold goStep; rw [if_pos h1]]
    have hh : decide (0 ≤ i ∧ i < gs.length) = false ∨ decide (0 ≤ i ∧ i < gs.length) = true := by cases decide (0 ≤ i ∧ i < gs.length) <;> simp
    have K := hg.more (M := N + 1) (by omega)
    have hl := hg.len
    go_enter Try.func11, Try.ntmps11
    go_wp2_with (go_at_call 17; refine (has_any p q cap N gs i _ hg).mono ?_; rintro e w' ⟨rfl, rfl⟩)
    all_goals (go_ret; exact ⟨rfl, K, Fr.refl _ _⟩)
  · obtain ⟨k, rfl⟩ : ∃ k : Nat, i = (k : Int) := ⟨i.toNat, by omega⟩
    have hk : k < gs.length := by omega
    have ht : 0 ≤ t := by omega
    have ht' : t ≤ 1099511627776 := by omega
    have hkI : (k : Int) < (gs.length : Int) := by omega
    have hl := hg.len
    have hr := hg.rng gs[k] (List.getElem_mem hk)
    have c0 := hg.ap k hk
    have c1 := hg.opn k hk
    have c2 := hg.ct k hk
    have f1 := hg.fr (k * 3 + 1)
    have f2 := hg.fr (k * 3 + 2)
    have hf := hg.fld
    have P := Lib.hid (hg.put k hk)
    have K := hg.more (M := N + 1) (by omega)
    have E : Hid (goStep gs k t = if t < gs[k].opn then (6, gs) else (0, gs.set k { gs[k] with opn := t + gs[k].apart, count := gs[k].count + 1 })) := by
      show _ = _
      unfold goStep
      rw [if_neg h1]
      simp [List.getD_eq_getElem?_getD, hk]
    generalize hap : gs[k].apart = a at *
    generalize hop : gs[k].opn = o at *
    generalize hct : gs[k].count = c at *
    have HH := Lib.hid hap; clear hap
    have HH2 := Lib.hid hop; clear hop
    have HH3 := Lib.hid hct; clear hct
    clear h1
    by_cases he : t < o
    · go_enter Try.func11, Try.ntmps11
      go_wp2_with (go_at_call 17; refine (has_any p q cap N gs k _ hg).mono ?_; rintro e w' ⟨rfl, rfl⟩)
      go_ret
      rw [E.out, if_pos he]
      exact ⟨rfl, K, Fr.refl _ _⟩
    · have hoo : o ≤ t := by omega
      go_enter Try.func11, Try.ntmps11
      go_wp2_with (first | (go_at_call 17; refine (has_any p q cap N gs k _ hg).mono ?_; rintro e w' ⟨rfl, rfl⟩) | (go_at_call 18; refine (add_fits _ _ _ (by omega) (by omega) (by omega) (by omega)).mono ?_; rintro e w' ⟨rfl, rfl⟩))
      go_ret
      rw [E.out, if_neg (by omega)]
      exact ⟨rfl, (HH3.out ▸ P.out (t + a) (c + 1) (by omega) (by omega) (by omega) (by omega)), ((Fr.refl (· = q) _).setCell (p := ⟨q, _, none⟩) rfl _).setCell (p := ⟨q, _, none⟩) rfl _⟩
end Go.Proofs.Ytbcoiemjbbbmkaa
