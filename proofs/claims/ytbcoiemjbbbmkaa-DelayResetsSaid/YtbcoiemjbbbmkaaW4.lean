/- WALKS: the statement's own helpers: right, awake; Reset. -/
import Derived.Test.YtbcoiemjbbbmkaaW3
import Derived.RegionTactic
namespace Go.Proofs.Ytbcoiemjbbbmkaa
open Go.RowKit

theorem go_is {p q cap N : Nat} {gs gs' : List Gate} {i t r : Int} {w : World} (hE : goStep gs i t = (r, gs')) (hg : GuardAt w p q cap N gs) (hN : N ≤ 1000000) :
    Calls Try.prog 11 #[.pointer (some ⟨p, 0, none⟩), .int .i64 i, .int .i64 t] w fun e w' =>
      e = .returned (.int .i64 r) ∧ GuardAt w' p q cap (N + 1) gs' ∧ Fr (· = q) w w' := by
  have := go_any p q cap N gs i t w hg hN
  rw [hE] at this
  exact this

theorem open_is {p q cap N : Nat} {gs : List Gate} {i r : Int} {b : Bool} {w : World} (hg : GuardAt w p q cap N gs) (hE : openF gs i = r) (hb : decide (0 ≤ i ∧ i < gs.length) = b) :
    Calls Try.prog 12 #[.pointer (some ⟨p, 0, none⟩), .int .i64 i] w fun e w' => e = .returned (.tuple #[.int .i64 r, .bool b]) ∧ w = w' := by
  have := open_any p q cap N gs i w hg
  rw [hE, hb] at this
  exact this

theorem count_is {p q cap N : Nat} {gs : List Gate} {i r : Int} {w : World} (hg : GuardAt w p q cap N gs) (hE : countF gs i = r) :
    Calls Try.prog 13 #[.pointer (some ⟨p, 0, none⟩), .int .i64 i] w fun e w' => e = .returned (.int .i64 r) ∧ w = w' := by
  have := count_any p q cap N gs i w hg
  rw [hE] at this
  exact this

set_option maxHeartbeats 1000000 in
theorem awake_any (w : World) :
    Calls Try.prog 8 #[] w fun e w' => e = .returned (.bool true) ∧ Below w.heap.size w w' := by
  have hx : IntsIn (w.heap.size + 1) (w.alloc (.cells #[.int .i64 5, .int .i64 2] 3)) (some ⟨w.heap.size, 0, none⟩) 2 [5, 2] := by
    refine ⟨rfl, fun _ => ⟨w.heap.size, 0, rfl, by omega, fun j hj => ?_⟩⟩
    have : (⟨w.heap.size, 0 + j, none⟩ : Addr) = (⟨w.heap.size, 0, none⟩ : Addr).add j := by unfold Addr.add; split <;> simp_all
    rw [this]
    refine cell_new _ _ _ j _ ?_
    match j, hj with
    | 0, _ => rfl
    | 1, _ => rfl
  go_enter Try.func8, Try.ntmps8
  go_wp2_with fail
  refine (new_good (w.heap.size + 1) _ 2 2 [5, 2] _ hx (by omega) (by decide) (by simp)).mono ?_
  rintro e w1 ⟨⟨p, q, cap, rfl, hg1, hp, hq⟩, hb1⟩
  clear hx
  go_wp2_with fail
  refine (go_is (r := 0) (gs' := [⟨5, 8, 1⟩, ⟨2, 0, 0⟩]) (by decide) hg1 (by omega)).mono ?_
  rintro e w2 ⟨rfl, hg2, hf2⟩
  go_wp2_with fail
  refine (go_is (r := 6) (gs' := [⟨5, 8, 1⟩, ⟨2, 0, 0⟩]) (by decide) hg2 (by omega)).mono ?_
  rintro e w3 ⟨rfl, hg3, hf3⟩
  go_wp2_with fail
  refine (go_is (r := 0) (gs' := [⟨5, 13, 2⟩, ⟨2, 0, 0⟩]) (by decide) hg3 (by omega)).mono ?_
  rintro e w4 ⟨rfl, hg4, hf4⟩
  go_wp2_with fail
  refine (go_is (r := 1) (gs' := [⟨5, 13, 2⟩, ⟨2, 0, 0⟩]) (by decide) hg4 (by omega)).mono ?_
  rintro e w5 ⟨rfl, hg5, hf5⟩
  go_wp2_with fail
  refine (open_is (r := 13) (b := true) hg5 (by decide) (by decide)).mono ?_
  rintro e w6 ⟨rfl, rfl⟩
  go_wp2_with fail
  refine (count_is (r := 2) hg5 (by decide)).mono ?_
  rintro e w6 ⟨rfl, rfl⟩
  go_wp2_with fail
  refine (count_is (r := 0) hg5 (by decide)).mono ?_
  rintro e w6 ⟨rfl, rfl⟩
  go_wp2_with fail
  go_ret
  refine ⟨rfl, ?_⟩
  have hs := hb1.size
  simp at hs hp hq
  have h0 : Below w.heap.size w w1 := ((Below.refl _ _).alloc (Nat.le_refl _) _).trans (hb1.mono (by simp))
  have hs2 := hf2.size
  have hs3 := hf3.size
  have hs4 := hf4.size
  exact h0.trans ((hf2.below (by rintro i _ rfl; omega) (by omega)).trans ((hf3.below (by rintro i _ rfl; omega) (by omega)).trans ((hf4.below (by rintro i _ rfl; omega) (by omega)).trans (hf5.below (by rintro i _ rfl; omega) (by omega)))))

set_option maxHeartbeats 400000 in
theorem right_any (B : Nat) (a : Option Addr) (n c : Nat) (xs : List Int) (w : World) (hx : IntsIn B w a n xs) (hn : n ≤ 9223372036854775807) :
    Calls Try.prog 10 #[.slice a n c] w fun e w' => e = .returned (.bool (!badNew n xs)) ∧ w = w' := by
  go_enter Try.func10, Try.ntmps10
  go_wp2_with fail
  go_loop [3] (fun i => ∃ k : Nat, k ≤ n ∧ i = .int .i64 k ∧ (xs.take k).any wrongN = false) (fun i => n - (intOf i).toNat)
  case atStart => exact ⟨0, Nat.zero_le _, rfl, by simp⟩
  case round =>
    obtain ⟨k, hk, rfl, hall⟩ := hrel
    have Hall := Lib.hid hall; clear hall
    by_cases hlt : k < n
    · obtain ⟨hlen, hx2⟩ := hx
      obtain ⟨b, off, rfl, hb, hc⟩ := hx2 (by omega)
      have hcell := hc k (by omega)
      have ht : (xs.take (k + 1)).any wrongN = ((xs.take k).any wrongN || wrongN xs[k]) := by
        rw [List.take_succ_eq_append_getElem (by omega), List.any_append]; simp
      rw [Hall.out] at ht
      have Ht := Lib.hid ht; clear ht
      have hm : xs[k] ∈ xs := List.getElem_mem _
      generalize xs[k] = x at *
      have Hx := Lib.hid hx2
      clear hx2 hc
      by_cases hw : x < 1 ∨ 1048576 < x
      · have hbad : badNew n xs = true := by
          unfold badNew
          rw [List.any_eq_true.2 ⟨x, hm, by simp [wrongN, hw]⟩]; simp
        have Hbad := Lib.hid hbad; clear hbad
        by_cases h1 : x < 1
        all_goals
          go_wp2_with fail
          go_ret
          exact ⟨ret_bool (by rw [Hbad.out]; rfl), rfl⟩
      · have h1 : 1 ≤ x := by omega
        have h2 : x ≤ 1048576 := by omega
        have hw' : wrongN x = false := by simp [wrongN]; omega
        rw [hw'] at Ht
        have Hw := Lib.hid hw'; clear hw' hw
        go_wp2_with fail
        go_round
        case rel => exact ⟨k + 1, by omega, by go_num, by rw [Ht.out]; rfl⟩
        case measure => simp [intOf]; omega
    · obtain rfl : k = n := by omega
      have hbad : (!badNew k xs) = decide (1 ≤ k ∧ k ≤ 16) := by
        have := Hall.out
        rw [List.take_of_length_le (by rw [hx.1]; exact Nat.le_refl _)] at this
        unfold badNew
        rw [this, Bool.or_false, Bool.eq_iff_iff]
        simp only [Bool.not_eq_true', decide_eq_false_iff_not, decide_eq_true_eq]
        omega
      have Hbad := Lib.hid hbad; clear hbad
      go_wp2_with fail
      all_goals (go_ret; exact ⟨ret_bool (by rw [Hbad.out, Bool.eq_iff_iff]; simp only [Bool.false_eq_true, decide_eq_true_eq, false_iff]; omega), rfl⟩)

set_option maxHeartbeats 1000000 in
theorem reset_any (p q cap N : Nat) (gs : List Gate) (w : World) (hg : GuardAt w p q cap N gs) :
    Calls Try.prog 14 #[.pointer (some ⟨p, 0, none⟩)] w fun e w' => e = .returned (.tuple #[]) ∧ GuardAt w' p q cap (N + gs.length) (gs.map Gate.zero) ∧ Fr (· = q) w w' := by
  have hfld := hg.fld
  have hl := hg.len
  generalize hn : gs.length = n at hfld hl
  have Hn := Lib.hid hn; clear hn
  go_enter Try.func14, Try.ntmps14
  go_wp2_with fail
  go_loopw [8] (fun i wr => ∃ k : Nat, k ≤ n ∧ i = .int .i64 k ∧ GuardAt wr p q cap (N + k) (zeroTo gs k) ∧ Fr (· = q) w wr) (fun i _ => n - (intOf i).toNat)
  case atStart => exact ⟨0, Nat.zero_le _, rfl, by simpa [zeroTo] using hg, Fr.refl _ _⟩
  case round =>
    obtain ⟨k, hk, rfl, hgk, hfr⟩ := hrel
    by_cases hlt : k < n
    · have hkl : k < (zeroTo gs k).length := by rw [zeroTo_length, Hn.out]; exact hlt
      have c1 := hgk.opn k hkl
      have c2 := hgk.ct k hkl
      have f1 := hgk.fr (k * 3 + 1)
      have f2 := hgk.fr (k * 3 + 2)
      have hf' := hgk.fld
      rw [zeroTo_length, Hn.out] at hf'
      have P := Lib.hid (hgk.put k hkl)
      generalize (zeroTo gs k)[k].opn = o at c1
      generalize (zeroTo gs k)[k].count = ct at c2
      clear hgk hfld
      go_wp2_with fail
      go_region
      go_wp2_with fail
      go_roundw
      case rel => exact ⟨k + 1, by omega, by go_num, by rw [zeroTo_succ _ _ (by rw [Hn.out]; exact hlt), ← zeroTo_at gs k (by rw [Hn.out]; exact hlt)]; exact (P.out 0 0 (by omega) (by omega) (by omega) (by omega)).drew, ((hfr.setCell (p := ⟨q, _, none⟩) rfl _).setCell (p := ⟨q, _, none⟩) rfl _).drew⟩
      case measure => simp [intOf]; omega
    · obtain rfl : k = n := by omega
      go_wp2_with fail
      go_end0
      refine ⟨rfl, ?_, hfr⟩

      have : zeroTo gs k = gs.map Gate.zero := by rw [zeroTo, List.take_of_length_le (by rw [Hn.out]; exact Nat.le_refl _), List.drop_eq_nil_of_le (by rw [Hn.out]; exact Nat.le_refl _), List.append_nil]
      rw [← this]; exact hgk
end Go.Proofs.Ytbcoiemjbbbmkaa
