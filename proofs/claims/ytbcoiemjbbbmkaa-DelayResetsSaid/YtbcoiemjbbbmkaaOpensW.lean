/- WALK: DelayOpens. -/
import Derived.Test.YtbcoiemjbbbmkaaW4
import Derived.Test.YtbcoiemjbbbmkaaLift
import Derived.Deep.DeepCutAuto
import Derived.Deep.QuietTactic
import Derived.BigQuiet
import Derived.StillTailTactics
namespace Go.Proofs.Ytbcoiemjbbbmkaa
open Go.RowKit
set_option linter.unusedVariables false

/-- The guard in a loop: what is kept. -/
structure StO (w0 w : World) (p q cap N n0 : Nat) (xs : List Int) (gs : List Gate) : Prop where
  g : GuardAt w p q cap N gs
  bel : Below w0.heap.size w0 w
  lo : w0.heap.size ≤ p ∧ w0.heap.size ≤ q
  len : Hid (gs.length = n0)
  ap : Hid (gs.map (·.apart) = xs)

theorem StO.drew {w0 w : World} {p q cap N n0 : Nat} {xs : List Int} {gs : List Gate} (h : StO w0 w p q cap N n0 xs gs) : StO w0 w.drew p q cap N n0 xs gs := ⟨h.g.drew, h.bel.drew, h.lo, h.len, h.ap⟩

theorem StO.go {w0 w : World} {p q cap N n0 : Nat} {xs : List Int} {gs : List Gate} (h : StO w0 w p q cap N n0 xs gs) (hN : N ≤ 1000000) (i t : Int) :
    Calls Try.prog 11 #[.pointer (some ⟨p, 0, none⟩), .int .i64 i, .int .i64 t] w fun e w' => e = .returned (.int .i64 (goStep gs i t).1) ∧ StO w0 w' p q cap (N + 1) n0 xs (goStep gs i t).2 :=
  (go_any p q cap N gs i t w h.g hN).mono fun _ _ ⟨he, hg, hf⟩ => ⟨he, hg, h.bel.trans (hf.below (by rintro i _ rfl; have := h.lo; omega) h.bel.size), h.lo, (goStep_length gs i t).trans h.len.out, (goStep_apart gs i t).trans h.ap.out⟩

theorem StO.go_is {w0 w : World} {p q cap N n0 : Nat} {xs : List Int} {gs gs' : List Gate} {i t r : Int} (h : StO w0 w p q cap N n0 xs gs) (hN : N ≤ 1000000) (hE : goStep gs i t = (r, gs')) :
    Calls Try.prog 11 #[.pointer (some ⟨p, 0, none⟩), .int .i64 i, .int .i64 t] w fun e w' => e = .returned (.int .i64 r) ∧ StO w0 w' p q cap (N + 1) n0 xs gs' := by
  have := h.go hN i t
  rw [hE] at this
  exact this

set_option maxHeartbeats 1000000 in
set_option maxRecDepth 100000 in
theorem opens_walk (a0 : Option Addr) (n0 c0 : Nat) (xs : List Int) (a1 : Option Addr) (n1 c1 : Nat) (ys : List (Int × Int)) (gate : Int) (w : World)
    (h0 : IntsIn w.heap.size w a0 n0 xs) (l0 : n0 ≤ 9223372036854775807) (r0 : ∀ z ∈ xs, (Lit.int .i64 z).wf = true)
    (h1 : PairsIn w.heap.size w a1 n1 ys) (l1 : n1 ≤ 9223372036854775807) (r1 : ∀ z ∈ ys, (Lit.int .i64 z.1).wf = true ∧ (Lit.int .i64 z.2).wf = true) (r2 : (Lit.int .u8 gate).wf = true) :
    Calls Try.prog 6 #[.slice a0 n0 c0, .slice a1 n1 c1, .int .u8 gate] w fun e w' => e = .returned (.bool true) ∧ Below w.heap.size w w' := by
  clear r0 r1
  have hgt : 0 ≤ gate ∧ gate ≤ 255 := by
    simp [Lit.wf] at r2
    have e1 : IntKind.u8.min = 0 := rfl
    have e2 : IntKind.u8.max = 255 := rfl
    omega
  obtain ⟨hgt0, hgt1⟩ := hgt
  clear r2
  cases hbad : badNew n0 xs
  · have Hbad := Lib.hid hbad
    have hn1' : 1 ≤ n0 ∧ n0 ≤ 16 := by
      have := hbad; unfold badNew at this; simp at this; omega
    clear hbad
    have hn01 : 1 ≤ n0 := hn1'.1
    have hn16 : n0 ≤ 16 := hn1'.2
    clear hn1'
    by_cases hn1 : 300 < n1
    · go_enter Try.func6, Try.ntmps6
      go_wp2_with fail
      refine (awake_any _).mono ?_
      rintro e w1 ⟨rfl, hb1⟩
      go_wp2_with fail
      refine (right_any w.heap.size a0 n0 c0 xs _ (h0.keep hb1) l0).mono ?_
      rw [Hbad.out]
      rintro e w3 ⟨rfl, rfl⟩
      go_wp2_with fail
      refine (awake_any _).mono ?_
      rintro e w2 ⟨rfl, hb2⟩
      go_wp2_with fail
      go_ret
      exact ⟨rfl, hb1.trans (hb2.mono hb1.size)⟩
    · have hn1 : n1 ≤ 300 := by omega
      obtain ⟨k, hkd⟩ : ∃ k : Nat, gate % (n0 : Int) = (k : Int) := ⟨(gate % n0).toNat, by have := Int.emod_nonneg gate (b := (n0 : Int)) (by omega); omega⟩
      have hkn : k < n0 := by have := Int.emod_lt_of_pos gate (b := (n0 : Int)) (by omega); omega
      go_enter Try.func6, Try.ntmps6
      go_wp2_with fail
      refine (awake_any _).mono ?_
      rintro e w1 ⟨rfl, hb1⟩
      go_wp2_with fail
      refine (right_any w.heap.size a0 n0 c0 xs _ (h0.keep hb1) l0).mono ?_
      rw [Hbad.out]
      rintro e w3 ⟨rfl, rfl⟩
      go_wp2_with fail
      refine (new_good w.heap.size _ _ _ xs _ (h0.keep hb1) l0 Hbad.out hb1.size).mono ?_
      rintro e w2 ⟨⟨p, q, cap, rfl, hg2, hp, hq⟩, hb2⟩
      have hb02 : Below w.heap.size w w2 := hb1.trans (hb2.mono hb1.size)
      have hs2 := hb02.size
      have hS : StO w w2 p q cap 0 n0 xs (newGates xs) := ⟨hg2, hb02, by have := hb1.size; omega, by show _ = _; simp [newGates, h0.1], by show _ = _; simp [newGates, Function.comp_def]⟩
      clear hg2 hb02 hb2 hb1 hs2 hp hq
      go_wp2_with fail
      generalize newGates xs = gs0 at hS
      go_loopw [10] (fun i wr => ∃ (j N : Nat) (gs : List Gate), j ≤ n1 ∧ i = .int .i64 j ∧ N ≤ j ∧ StO w wr p q cap N n0 xs gs) (fun i _ => n1 - (intOf i).toNat)
      case atStart => exact ⟨0, 0, _, Nat.zero_le _, rfl, Nat.le_refl _, hS⟩
      case round =>
        clear hS gs0
        obtain ⟨j, N, gs, hj, rfl, hN, hS⟩ := hrel
        by_cases hlt : j < n1
        · obtain ⟨hyl, hy⟩ := h1.keep hS.bel
          obtain ⟨b, off, rfl, hbB, hcc⟩ := hy (by omega)
          have hcell := hcc j (by omega)
          generalize ys[j].1 = g at hcell
          generalize ys[j].2 = t at hcell
          obtain ⟨cg, ct⟩ := hcell
          have H1 := Lib.hid h1; clear h1 hy hcc
          have hjI : (j : Int) < (n1 : Int) := by omega
          go_wp2_with fail
          go_still_tail 11, (by kernel_rfl)
          change wpList _ _ _ _ _ wr.drew
          have hS := hS.drew
          generalize wr.drew = w5 at *
          go_wp2_with fail
          refine (hS.go (by omega) g t).mono ?_
          rintro e w6 ⟨rfl, hS6⟩
          generalize (goStep gs g t).1 = r
          generalize (goStep gs g t).2 = gs' at hS6
          go_wp2_with fail
          go_roundw
          case rel => exact ⟨j + 1, N + 1, gs', by omega, by go_num, by omega, hS6⟩
          case measure => simp [intOf]; omega
        · have hkg : k < gs.length := by have := hS.len.out; omega
          have hr := hS.g.rng gs[k] (List.getElem_mem hkg)
          have hL := hS.len.out
          have EO : openF gs k = gs[k].opn := by unfold openF; rw [if_pos (by omega)]; simp [List.getD_eq_getElem?_getD, hkg]
          have EC : countF gs k = gs[k].count := by unfold countF; rw [if_pos (by omega)]; simp [List.getD_eq_getElem?_getD, hkg]
          have E : ∀ t, goStep gs k t = if t < 0 ∨ 1099511627776 < t then (1, gs) else if t < gs[k].opn then (6, gs) else (0, gs.set k { gs[k] with opn := t + gs[k].apart, count := gs[k].count + 1 }) := by
            intro t
            unfold goStep
            by_cases ht : t < 0 ∨ 1099511627776 < t
            · rw [if_pos (by omega), if_pos ht]
            · rw [if_neg (by omega), if_neg ht]; simp [List.getD_eq_getElem?_getD, hkg]
          have OP := Lib.hid (open_is (r := gs[k].opn) (b := true) hS.g EO (by simp; omega))
          have hxk : k < xs.length := by have := h0.1; omega
          have hxa : xs[k] = gs[k].apart := by have := hS.ap.out; subst this; simp
          have hN3 : N ≤ 300 := by omega
          clear EO
          generalize hgs2 : gs.set k { gs[k] with opn := gs[k].opn + gs[k].apart, count := gs[k].count + 1 } = gs2
          have EO2 : openF gs2 k = gs[k].opn + gs[k].apart := by subst hgs2; unfold openF; rw [if_pos (by simp; omega)]; simp [List.getD_eq_getElem?_getD, hkg]
          have EC2 : countF gs2 k = gs[k].count + 1 := by subst hgs2; unfold countF; rw [if_pos (by simp; omega)]; simp [List.getD_eq_getElem?_getD, hkg]
          have E2 : ¬ (gs[k].opn < 0 ∨ 1099511627776 < gs[k].opn) → goStep gs2 k gs[k].opn = (6, gs2) := by
            intro h
            subst hgs2; unfold goStep; rw [if_neg (by simp; omega), if_pos (by simp [List.getD_eq_getElem?_getD, hkg]; omega)]
          have E1 : ¬ (gs[k].opn < 0 ∨ 1099511627776 < gs[k].opn) → goStep gs k gs[k].opn = (0, gs2) := by
            intro h
            rw [E, if_neg h, if_neg (by omega), hgs2]
          have E0 : ¬ (1099511627776 < gs[k].opn) → 0 < gs[k].opn → goStep gs k (gs[k].opn - 1) = (6, gs) := by
            intro h h'
            rw [E, if_neg (by omega), if_pos (by omega)]
          have hl2 : gs2.length = gs.length := by subst hgs2; simp
          clear E hgs2
          generalize gs[k].opn = o at *
          generalize hga : gs[k].apart = a at *
          generalize gs[k].count = c at *
          have Hxa := Lib.hid hxa; clear hxa hga
          have HC := Lib.hid EC; clear EC
          have HC2 := Lib.hid EC2; clear EC2
          have HO2 := Lib.hid EO2; clear EO2
          have HE2 := Lib.hid E2; clear E2
          have HE1 := Lib.hid E1; clear E1
          have HE0 := Lib.hid E0; clear E0
          have Hl2 := Lib.hid hl2; clear hl2
          have HL := Lib.hid hL; clear hL
          go_wp2_with fail
          refine OP.out.mono ?_
          rintro e w6 ⟨rfl, rfl⟩
          by_cases ho : 1099511627776 < o
          · go_wp2_with fail
            go_ret
            exact ⟨rfl, hS.bel⟩
          · have hrest : ∀ (M : Nat) (w7 : World), M ≤ 400 → StO w w7 p q cap M n0 xs gs →
                Calls Try.prog 13 #[.pointer (some ⟨p, 0, none⟩), .int .i64 (k : Int)] w7 fun e w' => e = .returned (.int .i64 c) ∧ w7 = w' := fun M w7 _ h => count_is h.g HC.out
            have Hrest := Lib.hid hrest; clear hrest
            by_cases h0o : 0 < o
            · go_wp2_with fail
              refine (hS.go_is (by omega) (HE0.out (by omega) (by omega))).mono ?_
              rintro e w8 ⟨rfl, hS8⟩
              go_wp2_with fail
              refine (Hrest.out _ _ (by omega) hS8).mono ?_
              rintro e w9 ⟨rfl, rfl⟩
              go_wp2_with fail
              refine (hS8.go_is (by omega) (HE1.out (by omega))).mono ?_
              rintro e w9 ⟨rfl, hS9⟩
              go_wp2_with fail
              refine (open_is (b := true) hS9.g HO2.out (by rw [Hl2.out, HL.out]; simp; omega)).mono ?_
              rintro e w10 ⟨rfl, rfl⟩
              go_wp2_with fail
              refine (count_is hS9.g HC2.out).mono ?_
              rintro e w10 ⟨rfl, rfl⟩
              obtain ⟨b', off', eqa, hb', hx'⟩ := (h0.keep hS9.bel).2 (by omega)
              subst eqa
              have ca := hx' k hxk
              rw [Hxa.out] at ca
              have hkI : (k : Int) < (n0 : Int) := by omega
              clear hx'
              go_wp2_with fail
              refine (hS9.go_is (by omega) (HE2.out (by omega))).mono ?_
              rintro e w11 ⟨rfl, hS11⟩
              go_wp2_with fail
              go_ret
              exact ⟨rfl, hS11.bel⟩
            · go_wp2_with fail
              refine (Hrest.out _ _ (by omega) hS).mono ?_
              rintro e w9 ⟨rfl, rfl⟩
              go_wp2_with fail
              refine (hS.go_is (by omega) (HE1.out (by omega))).mono ?_
              rintro e w9 ⟨rfl, hS9⟩
              go_wp2_with fail
              refine (open_is (b := true) hS9.g HO2.out (by rw [Hl2.out, HL.out]; simp; omega)).mono ?_
              rintro e w10 ⟨rfl, rfl⟩
              go_wp2_with fail
              refine (count_is hS9.g HC2.out).mono ?_
              rintro e w10 ⟨rfl, rfl⟩
              obtain ⟨b', off', eqa, hb', hx'⟩ := (h0.keep hS9.bel).2 (by omega)
              subst eqa
              have ca := hx' k hxk
              rw [Hxa.out] at ca
              have hkI : (k : Int) < (n0 : Int) := by omega
              clear hx'
              go_wp2_with fail
              refine (hS9.go_is (by omega) (HE2.out (by omega))).mono ?_
              rintro e w11 ⟨rfl, hS11⟩
              go_wp2_with fail
              go_ret
              exact ⟨rfl, hS11.bel⟩
  · have Hbad := Lib.hid hbad; clear hbad
    go_enter Try.func6, Try.ntmps6
    go_wp2_with fail
    refine (awake_any _).mono ?_
    rintro e w1 ⟨rfl, hb1⟩
    go_wp2_with fail
    refine (right_any w.heap.size a0 n0 c0 xs _ (h0.keep hb1) l0).mono ?_
    rw [Hbad.out]
    rintro e w3 ⟨rfl, rfl⟩
    go_wp2_with fail
    refine (awake_any _).mono ?_
    rintro e w2 ⟨rfl, hb2⟩
    go_wp2_with fail
    go_ret
    exact ⟨rfl, hb1.trans (hb2.mono hb1.size)⟩
end Go.Proofs.Ytbcoiemjbbbmkaa
