/- WALK: PromoteInTime. -/
import Derived.Test.YthmbbbdnfgefbaaP3
namespace Go.Proofs.Ythmbbbdnfgefbaa
open Go.RowKit
set_option linter.unusedVariables false

theorem u32_bd {x : Int} (h : (Lit.int .u32 x).wf = true) : 0 ≤ x ∧ x ≤ 4294967295 := by
  simp [Lit.wf] at h
  have e1 : IntKind.u32.min = 0 := rfl
  have e2 : IntKind.u32.max = 4294967295 := rfl
  omega

set_option maxHeartbeats 4000000 in
set_option maxRecDepth 100000 in
theorem pintime_walk (a d r : Int) (w : World) (r0 : (Lit.int .u32 a).wf = true) (r1 : (Lit.int .u32 d).wf = true) (r2 : (Lit.int .u32 r).wf = true) :
    Calls Try.prog 9 #[.int .u32 a, .int .u32 d, .int .u32 r] w fun e w' => e = .returned (.bool true) ∧ Below w.heap.size w w' := by
  obtain ⟨a0, a1⟩ := u32_bd r0
  obtain ⟨d0, d1⟩ := u32_bd r1
  obtain ⟨q0, q1⟩ := u32_bd r2
  clear r0 r1 r2
  have O := Lib.hid (fun w => offset_any d r w (by omega))
  by_cases hbad : r < 1 ∨ d < r
  · have E1 : Hid (offM d r = (0, false)) := by show _ = _; unfold offM; rw [if_pos hbad]
    have O' := Lib.hid (fun w => by have := O.out w; rw [E1.out] at this; exact this)
    have Wt := Lib.hid (fun (w0 w : World) (q p : Nat) (F : Nat → Prop) (h : PX w0 w q p 1 F 0 []) => h.wait_is (id := 7) (release := a) (d := d) (r := r) (x := 0) (y := 1) (m' := []) (by omega) (waitM_bad hbad))
    clear O E1
    by_cases h1 : r < 1
    · clear hbad
      go_enter Try.func9, Try.ntmps9
      go_wp2_with fail
      refine (pawake_any _).mono ?_
      rintro e w1 ⟨rfl, hb1⟩
      go_wp2_with fail
      refine (PX.new hb1 1 (by omega) (by omega)).mono ?_
      rintro e w2 ⟨q, p, F2, rfl, h2, _, _, _⟩
      go_wp2_with fail
      refine (O'.out _).mono ?_
      rintro e w3 ⟨rfl, rfl⟩
      go_wp2_with fail
      refine (Wt.out _ _ _ _ _ h2).mono ?_
      rintro e w4 ⟨rfl, F4, h4, _⟩
      go_wp2_with fail
      go_ret
      exact ⟨rfl, h4.bel⟩
    · have h1' : 1 ≤ r := by omega
      have h2' : d < r := by omega
      clear hbad
      go_enter Try.func9, Try.ntmps9
      go_wp2_with fail
      refine (pawake_any _).mono ?_
      rintro e w1 ⟨rfl, hb1⟩
      go_wp2_with fail
      refine (PX.new hb1 1 (by omega) (by omega)).mono ?_
      rintro e w2 ⟨q, p, F2, rfl, h2, _, _, _⟩
      go_wp2_with fail
      refine (O'.out _).mono ?_
      rintro e w3 ⟨rfl, rfl⟩
      go_wp2_with fail
      refine (Wt.out _ _ _ _ _ h2).mono ?_
      rintro e w4 ⟨rfl, F4, h4, _⟩
      go_wp2_with fail
      go_ret
      exact ⟨rfl, h4.bel⟩
  · have h1 : 1 ≤ r := by omega
    have h2 : r ≤ d := by omega
    obtain ⟨N, hN⟩ : ∃ N, N = d - r := ⟨_, rfl⟩
    obtain ⟨T, hT⟩ : ∃ T, T = a + (d - r) := ⟨_, rfl⟩
    have E1 : Hid (offM d r = (N, true)) := by show _ = _; unfold offM; rw [if_neg hbad, hN]
    have O' := Lib.hid (fun w => by have := O.out w; rw [E1.out] at this; exact this)
    have hadd : addM 0 1 [] (T, 7) = (0, [(T, 7)]) := by
      unfold addM
      rw [if_neg (by simp; omega), if_neg (by simp), if_neg (by simp)]; rfl
    have Wt := Lib.hid (fun (w0 w : World) (q p : Nat) (F : Nat → Prop) (h : PX w0 w q p 1 F 0 []) => h.wait_is (id := 7) (release := a) (d := d) (r := r) (x := T) (y := 0) (m' := [(T, 7)]) (by omega) (by
      rw [waitM_ok h1 h2 a0 (by omega) (by rw [← hT]; show (addM 0 1 [] (T, 7)).1 = 0; rw [hadd]), ← hT]
      show (T, (0 : Int), (addM 0 1 [] (T, 7)).2) = _
      rw [hadd]))
    have hle : a ≤ T := by omega
    have hT0 : 0 ≤ T := by omega
    have hT1 : T ≤ 1099511627776 := by omega
    have k1 : (N == d - r) = true := by simp [hN]
    have k2 : (a + d - T == r) = true := by simp; omega
    have K1 := Lib.hid k1
    have K2 := Lib.hid k2
    have hf1 : Hid ([((T, 7) : Int × Int)].filter (fun d => decide (d.1 ≤ T)) = [(T, 7)]) := by show _ = _; simp
    clear O E1 hadd hN hT hbad k1 k2
    go_enter Try.func9, Try.ntmps9
    go_wp2_with fail
    refine (pawake_any _).mono ?_
    rintro e w1 ⟨rfl, hb1⟩
    go_wp2_with fail
    refine (PX.new hb1 1 (by omega) (by omega)).mono ?_
    rintro e w2 ⟨q, p, F2, rfl, h2, _, _, _⟩
    go_wp2_with fail
    refine (O'.out _).mono ?_
    rintro e w3 ⟨rfl, rfl⟩
    go_wp2_with fail
    refine (Wt.out _ _ _ _ _ h2).mono ?_
    rintro e w4 ⟨rfl, F4, h4, _⟩
    go_wp2_with fail
    refine (h4.adv T hT0 hT1).mono ?_
    rintro e w5 ⟨v5, F5, rfl, ho5, h5, _, _, _⟩
    rw [hf1.out] at ho5
    have ho6' : w5.ownsRow w4.heap.size 3 1 v5 1 [.int .i64 7] := ho5
    obtain ⟨g, cap, rfl, _, hg, _, hcell, _⟩ := ownsRow_cells ho6' (by omega)
    have cc := hcell 0 _ rfl
    have k1 := K1.out
    have k2 := K2.out
    clear ho5 ho6' hcell
    go_wp2_with fail
    go_ret
    exact ⟨rfl, h5.bel⟩
end Go.Proofs.Ythmbbbdnfgefbaa
