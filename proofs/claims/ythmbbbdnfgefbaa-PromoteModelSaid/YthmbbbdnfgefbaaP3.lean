/- WALKS: promote's awake; PromoteInTime. -/
import Derived.Test.YthmbbbdnfgefbaaP2
namespace Go.Proofs.Ythmbbbdnfgefbaa
open Go.RowKit
set_option linter.unusedVariables false

theorem PX.wait_is {w0 w : World} {q p room : Nat} {F : Nat → Prop} {now : Int} {m m' : List (Int × Int)} {id release d r x y : Int} (h : PX w0 w q p room F now m) (hd : d ≤ 9223372036854775807) (hE : waitM now room m id release d r = (x, y, m')) :
    Calls Try.prog 24 #[.pointer (some ⟨q, 0, none⟩), .int .i64 id, .int .i64 release, .int .i64 d, .int .i64 r] w fun e w' =>
      e = .returned (.tuple #[.int .i64 x, .int .i64 y]) ∧ ∃ F', PX w0 w' q p room F' now m' ∧ (∀ k, F' k → F k ∨ w.heap.size ≤ k) ∧ Fr F w w' := by
  have := h.wait id release d r hd
  rw [hE] at this; exact this

theorem waitM_ok {now room : Int} {m : List (Int × Int)} {id release d r : Int} (h1 : 1 ≤ r) (h2 : r ≤ d) (h3 : 0 ≤ release) (h4 : release + (d - r) ≤ 4611686018427387904) (h5 : (addM now room m (release + (d - r), id)).1 = 0) :
    waitM now room m id release d r = (release + (d - r), 0, (addM now room m (release + (d - r), id)).2) := by
  have e1 : offM d r = (d - r, true) := by unfold offM; rw [if_neg (by omega)]
  have e2 : sumM release (d - r) = (release + (d - r), true) := by unfold sumM tim; rw [if_pos ⟨⟨h3, by omega⟩, ⟨by omega, by omega⟩, by omega⟩]
  unfold waitM
  rw [e1]
  simp only [e2]
  rw [if_neg (by simp), if_neg (by simp [h5])]
theorem waitM_no {now room : Int} {m : List (Int × Int)} {id release d r : Int} (h1 : 1 ≤ r) (h2 : r ≤ d) (h3 : 0 ≤ release) (h4 : release + (d - r) ≤ 4611686018427387904) (h5 : (addM now room m (release + (d - r), id)).1 ≠ 0) :
    waitM now room m id release d r = (0, (addM now room m (release + (d - r), id)).1, m) := by
  have e1 : offM d r = (d - r, true) := by unfold offM; rw [if_neg (by omega)]
  have e2 : sumM release (d - r) = (release + (d - r), true) := by unfold sumM tim; rw [if_pos ⟨⟨h3, by omega⟩, ⟨by omega, by omega⟩, by omega⟩]
  unfold waitM
  rw [e1]
  simp only [e2]
  rw [if_neg (by simp), if_pos h5]
theorem waitM_bad {now room : Int} {m : List (Int × Int)} {id release d r : Int} (h : r < 1 ∨ d < r) : waitM now room m id release d r = (0, 1, m) := by
  have e1 : offM d r = (0, false) := by unfold offM; rw [if_pos h]
  unfold waitM
  rw [e1, if_pos (by simp)]

set_option maxHeartbeats 2000000 in
set_option maxRecDepth 100000 in
theorem pawake_any (w : World) : Calls Try.prog 22 #[] w fun e w' => e = .returned (.bool true) ∧ Below w.heap.size w w' := by
  have O := Lib.hid (fun w => offset_any 20 5 w (by omega))
  go_enter Try.func22, Try.ntmps22
  go_wp2_with fail
  refine (PX.new (w0 := w) (Below.refl _ _) 2 (by omega) (by omega)).mono ?_
  rintro e w1 ⟨q, p, F1, rfl, h1, _, _, _⟩
  go_wp2_with fail
  refine (h1.wait_is (x := 25) (y := 0) (m' := [(25, 1)]) (by omega) (waitM_ok (by omega) (by omega) (by omega) (by omega) (by decide))).mono ?_
  rintro e w2 ⟨rfl, F2, h2, _⟩
  go_wp2_with fail
  refine (h2.wait_is (x := 0) (y := 7) (m' := [(25, 1)]) (by omega) (waitM_no (by omega) (by omega) (by omega) (by omega) (by decide))).mono ?_
  rintro e w3 ⟨rfl, F3, h3, _⟩
  go_wp2_with fail
  refine (h3.wait_is (x := 0) (y := 1) (m' := [(25, 1)]) (by omega) (waitM_bad (by omega))).mono ?_
  rintro e w4 ⟨rfl, F4, h4, _⟩
  go_wp2_with fail
  refine (h4.adv 24 (by omega) (by omega)).mono ?_
  rintro e w5 ⟨v5, F5, rfl, ho5, h5, _, _, _⟩
  have h5' : PX w w5 q p 2 F5 24 [(25, 1)] := h5
  obtain ⟨a5, c5, rfl⟩ := ownsRow_form ho5
  clear ho5 h5
  go_wp2_with fail
  refine (h5'.adv 25 (by omega) (by omega)).mono ?_
  rintro e w6 ⟨v6, F6, rfl, ho6, h6, _, _, _⟩
  have h6' : PX w w6 q p 2 F6 25 [] := h6
  have ho6' : w6.ownsRow w5.heap.size 3 1 v6 1 [.int .i64 1] := ho6
  obtain ⟨g, cap, rfl, _, hg, _, hcell, _⟩ := ownsRow_cells ho6' (by omega)
  have cc := hcell 0 _ rfl
  have hW := Lib.hid h6'.waiting
  have hD := Lib.hid (h6'.drop 1)
  clear ho6 ho6' h6 hcell
  go_wp2_with fail
  refine (O.out _).mono ?_
  rintro e w7 ⟨rfl, rfl⟩
  go_wp2_with fail
  refine hW.out.mono ?_
  rintro e w7 ⟨rfl, rfl⟩
  go_wp2_with fail
  refine hD.out.mono ?_
  rintro e w8 ⟨rfl, F8, h8, _⟩
  go_wp2_with fail
  go_ret
  exact ⟨rfl, h8.bel⟩
end Go.Proofs.Ythmbbbdnfgefbaa
