/- WALKS: the reference's Compare; HeapCompares. -/
import Derived.Test.YtaogdgbijjjpjaaHM
namespace Go.Proofs.Ytaogdgbijjjpjaa
open Go.RowKit
set_option linter.unusedVariables false

def qi (x : Q) (j : Nat) : Int := match j with | 0 => x.1 | 1 => x.2.1 | 2 => x.2.2.1 | _ => x.2.2.2
def cl (x y : Q) : List Int := (List.range 4).map fun j => cmp3 (qi x j) (qi y j)
theorem cl_len (x y : Q) : (cl x y).length = 4 := by simp [cl]
theorem cl_at (x y : Q) (j : Nat) (h : j < (cl x y).length) : (cl x y)[j] = cmp3 (qi x j) (qi y j) := by simp [cl]
theorem cmpK_at (x y : Q) (k : Nat) (hk : k < 4) (h : ∀ j, j < k → qi x j = qi y j) (hne : qi x k ≠ qi y k) : cmpK x y = cmp3 (qi x k) (qi y k) := by
  have hk' : k < (cl x y).length := by rw [cl_len]; exact hk
  show orL (cl x y) = _
  rw [orL_drop (cl x y) k (fun j hj hjk => by rw [cl_at x y j hj, (cmp3_zero _ _).2 (h j hjk)]), List.drop_eq_getElem_cons hk']
  have h0 : cmp3 (qi x k) (qi y k) ≠ 0 := fun h0 => hne ((cmp3_zero _ _).1 h0)
  rw [orL, cl_at x y k hk', if_neg h0]
theorem cmpK_end (x y : Q) (h : ∀ j, j < 4 → qi x j = qi y j) : cmpK x y = 0 := by
  rw [cmpK_zero]
  exact Prod.ext (h 0 (by omega)) (Prod.ext (h 1 (by omega)) (Prod.ext (h 2 (by omega)) (h 3 (by omega))))
theorem cmp3_pos {a b : Int} (h : b < a) : cmp3 a b = 1 := by unfold cmp3; rw [if_neg (by omega), if_pos h]
theorem cmp3_neg1 {a b : Int} (h : a < b) : cmp3 a b = -1 := by unfold cmp3; rw [if_pos h]

theorem lit_at (x : Q) (j : Nat) (h : j < 4) : [Value.int .i64 x.1, Value.int .i64 x.2.1, Value.int .i64 x.2.2.1, Value.int .i64 x.2.2.2][j]? = some (Value.int .i64 (qi x j)) := by
  have : j = 0 ∨ j = 1 ∨ j = 2 ∨ j = 3 := by omega
  rcases this with rfl | rfl | rfl | rfl <;> rfl

set_option maxHeartbeats 2000000 in
set_option maxRecDepth 100000 in
theorem refCmp_any (x y : Q) (w : World) : Calls Try.prog 16 #[qv x, qv y] w fun e w' => e = .returned (.int .i64 (cmpK x y)) ∧ Below w.heap.size w w' := by
  have HA := Lib.hid (fun k hk h hne => cmpK_at x y k hk h hne)
  have HE := Lib.hid (cmpK_end x y)
  have LX := Lib.hid (lit_at x)
  have LY := Lib.hid (lit_at y)
  generalize cmpK x y = r at *
  generalize qi x = X at *
  generalize qi y = Y at *
  obtain ⟨x0, x1, x2, x3⟩ := x
  obtain ⟨y0, y1, y2, y3⟩ := y
  unfold qv
  simp only
  go_enter Try.func16, Try.ntmps16
  go_wp2_with fail
  obtain ⟨A, hA⟩ : ∃ A, (w.alloc (.cells #[.int .i64 x0, .int .i64 x1, .int .i64 x2, .int .i64 x3] 23)).alloc (.cells #[.int .i64 y0, .int .i64 y1, .int .i64 y2, .int .i64 y3] 23) = A := ⟨_, rfl⟩
  have hsA : A.heap.size = w.heap.size + 1 + 1 := by rw [← hA]; simp
  have hbA : Below w.heap.size w A := by rw [← hA]; exact ((Below.refl _ w).alloc (Nat.le_refl _) _).alloc (by simp) _
  have cX : ∀ j, j < 4 → ((A.alloc (.cells #[.int .i64 x0, .int .i64 x1, .int .i64 x2, .int .i64 x3] 3)).alloc (.cells #[.int .i64 y0, .int .i64 y1, .int .i64 y2, .int .i64 y3] 3)).cell? ⟨w.heap.size + 1 + 1, j, none⟩ = some (.int .i64 (X j)) := fun j hj => by
    rw [World.cell?_alloc_lt _ _ _ (by simp [hsA])]
    exact cell_newb A #[.int .i64 x0, .int .i64 x1, .int .i64 x2, .int .i64 x3] 3 _ j _ hsA.symm (LX.out j hj)
  have cY : ∀ j, j < 4 → ((A.alloc (.cells #[.int .i64 x0, .int .i64 x1, .int .i64 x2, .int .i64 x3] 3)).alloc (.cells #[.int .i64 y0, .int .i64 y1, .int .i64 y2, .int .i64 y3] 3)).cell? ⟨w.heap.size + 1 + 1 + 1, j, none⟩ = some (.int .i64 (Y j)) := fun j hj => by
    exact cell_newb (A.alloc (.cells #[.int .i64 x0, .int .i64 x1, .int .i64 x2, .int .i64 x3] 3)) #[.int .i64 y0, .int .i64 y1, .int .i64 y2, .int .i64 y3] 3 _ j _ (by simp [hsA]) (LY.out j hj)
  have hb4 : Below w.heap.size w ((A.alloc (.cells #[.int .i64 x0, .int .i64 x1, .int .i64 x2, .int .i64 x3] 3)).alloc (.cells #[.int .i64 y0, .int .i64 y1, .int .i64 y2, .int .i64 y3] 3)) := (hbA.alloc hbA.size _).alloc (by simp; omega) _
  rw [hA]
  generalize (A.alloc (.cells #[.int .i64 x0, .int .i64 x1, .int .i64 x2, .int .i64 x3] 3)).alloc (.cells #[.int .i64 y0, .int .i64 y1, .int .i64 y2, .int .i64 y3] 3) = w4 at *
  have CX := Lib.hid cX
  have CY := Lib.hid cY
  have HB4 := Lib.hid hb4
  clear hA hsA hbA cX cY hb4 LX LY
  go_loopw [7] (fun si wr => ∃ k : Nat, k ≤ 4 ∧ si = .int .i64 k ∧ Hid (∀ j, j < k → X j = Y j) ∧ ∃ q, wr = w4.drewN q) (fun si _ => 4 - (intOf si).toNat)
  case atStart => exact ⟨0, by omega, rfl, fun j hj => by omega, 0, rfl⟩
  case round =>
    obtain ⟨k, hk, rfl, HK, q, rfl⟩ := hrel
    by_cases hlt : k < 4
    · have c0 := CX.out k hlt
      have c1 := CY.out k hlt
      have HA' := Lib.hid (HA.out k hlt HK.out)
      have HN : Hid (X k = Y k → ∀ j, j < k + 1 → X j = Y j) := by
        intro e j hj
        rcases Nat.lt_or_ge j k with h | h
        · exact HK.out j h
        · obtain rfl : j = k := by omega
          exact e
      generalize X k = a at *
      generalize Y k = b at *
      have hkI : (k : Int) < 4 := by omega
      have hk0 : (0 : Int) ≤ (k : Int) := by omega
      clear HK HA
      by_cases h1 : a < b
      · have E := Lib.hid (HA'.out (by omega) |>.trans (cmp3_neg1 h1))
        clear HA' HN
        go_wp2_with fail
        go_quiet (fail)
        go_wp2_with fail
        go_ret
        exact ⟨by rw [E.out]; rfl, HB4.out.trans ⟨rfl, rfl, rfl, Nat.le_refl _, fun _ _ => rfl⟩⟩
      · have h1' : b ≤ a := by omega
        by_cases h2 : b < a
        · have E := Lib.hid (HA'.out (by omega) |>.trans (cmp3_pos h2))
          clear HA' HN h1
          go_wp2_with fail
          go_quiet (fail)
          go_wp2_with fail
          go_quiet (fail)
          go_wp2_with fail
          go_ret
          exact ⟨by rw [E.out]; rfl, HB4.out.trans ⟨rfl, rfl, rfl, Nat.le_refl _, fun _ _ => rfl⟩⟩
        · have hab : a = b := by omega
          have HN' := Lib.hid (HN.out hab)
          subst hab
          clear HA' HN h1 h2 h1'
          go_wp2_with fail
          go_quiet (fail)
          go_wp2_with fail
          go_quiet (fail)
          go_wp2_with fail
          go_roundw
          case rel => exact ⟨k + 1, by omega, by go_num, HN', _, rfl⟩
          case measure => simp [intOf]; omega
    · obtain rfl : k = 4 := by omega
      have E := Lib.hid (HE.out HK.out)
      go_wp2_with fail
      go_ret
      exact ⟨by rw [E.out]; rfl, HB4.out.trans ⟨rfl, rfl, rfl, Nat.le_refl _, fun _ _ => rfl⟩⟩
end Go.Proofs.Ytaogdgbijjjpjaa
