/- WALK: DelayResets. -/
import Derived.Test.YtbcoiemjbbbmkaaOwnW
import Derived.Test.YtbcoiemjbbbmkaaModelW
import Derived.Deep.RegionHeld3
namespace Go.Proofs.Ytbcoiemjbbbmkaa
open Go.RowKit
set_option linter.unusedVariables false

theorem zero_newGates (gs : List Gate) (xs : List Int) (h : gs.map (·.apart) = xs) : gs.map Gate.zero = newGates xs := by
  subst h; simp [newGates, Function.comp_def, Gate.zero]

/-- the first k numbers overwritten by 1 -/
def onesTo (xs : List Int) (k : Nat) : List Int := List.replicate (min k xs.length) 1 ++ xs.drop k
theorem onesTo_length (xs : List Int) (k : Nat) : (onesTo xs k).length = xs.length := by simp [onesTo]; omega
theorem onesTo_at (xs : List Int) (k : Nat) (h : k < xs.length) : (onesTo xs k)[k]'(by rw [onesTo_length]; exact h) = xs[k] := by
  simp only [onesTo]
  rw [List.getElem_append_right (by simp; omega)]
  simp [Nat.min_eq_left (Nat.le_of_lt h)]
theorem onesTo_succ (xs : List Int) (k : Nat) (h : k < xs.length) : onesTo xs (k + 1) = (onesTo xs k).set k 1 := by
  apply List.ext_getElem
  · rw [onesTo_length, List.length_set, onesTo_length]
  · intro i h1 h2
    rw [onesTo_length] at h1
    rw [List.getElem_set]
    simp only [onesTo]
    by_cases hi : i < k
    · rw [if_neg (by omega), List.getElem_append_left (by simp; omega), List.getElem_append_left (by simp; omega)]; simp
    · by_cases he : k = i
      · subst he; rw [if_pos rfl, List.getElem_append_left (by simp; omega)]; simp
      · rw [if_neg he, List.getElem_append_right (by simp; omega), List.getElem_append_right (by simp; omega)]
        simp only [List.getElem_drop, List.length_replicate]
        congr 1; omega

set_option maxHeartbeats 1000000 in
set_option maxRecDepth 100000 in
theorem resets_walk (a0 : Option Addr) (n0 c0 : Nat) (xs : List Int) (a1 : Option Addr) (n1 c1 : Nat) (ys : List (Int × Int)) (w : World)
    (h0 : IntsIn w.heap.size w a0 n0 xs) (l0 : n0 ≤ 9223372036854775807) (r0 : ∀ z ∈ xs, (Lit.int .i64 z).wf = true)
    (h1 : PairsIn w.heap.size w a1 n1 ys) (l1 : n1 ≤ 9223372036854775807) (r1 : ∀ z ∈ ys, (Lit.int .i64 z.1).wf = true ∧ (Lit.int .i64 z.2).wf = true) :
    Calls Try.prog 7 #[.slice a0 n0 c0, .slice a1 n1 c1] w fun e w' => e = .returned (.bool true) ∧ Below w.heap.size w w' := by
  clear r0 r1
  cases hbad : badNew n0 xs
  · have Hbad := Lib.hid hbad
    have hn1' : 1 ≤ n0 ∧ n0 ≤ 16 := by
      have := hbad; unfold badNew at this; simp at this; omega
    clear hbad
    have hn01 : 1 ≤ n0 := hn1'.1
    have hn16 : n0 ≤ 16 := hn1'.2
    clear hn1'
    by_cases hn1 : 300 < n1
    · go_enter Try.func7, Try.ntmps7
      go_wp2_with fail
      refine (awake_any _).mono ?_
      rintro e w1 ⟨rfl, hb1⟩
      go_wp2_with fail
      refine (right_any w.heap.size a0 n0 c0 xs _ (h0.keep hb1) l0).mono ?_
      rw [Hbad.out]
      rintro e w3 ⟨rfl, rfl⟩
      go_wp2_with fail
      refine (awake_any _).mono ?_
      rintro e w2 ⟨rfl, hb2⟩
      go_wp2_with fail
      go_ret
      exact ⟨rfl, hb1.trans (hb2.mono hb1.size)⟩
    · have hn1 : n1 ≤ 300 := by omega
      obtain ⟨i0, hi, hz0, hz1, hz2⟩ := info_parts Try.info3
      have hx0 := h0.1
      have h0' := h0
      obtain ⟨ba, oa, rfl, hba, hca⟩ := h0.2 (by omega)
      have HCA : Hid (∀ w', Below w.heap.size w w' → ∀ j (h : j < xs.length), w'.cell? ⟨ba, oa + j, none⟩ = some (.int .i64 xs[j])) := by
        intro w' hb j hj
        exact (hb.cell (p := ⟨ba, oa + j, none⟩) hba).trans (hca j hj)
      clear hca h0'
      go_enter Try.func7, Try.ntmps7
      go_wp2_with fail
      refine (awake_any _).mono ?_
      rintro e w1 ⟨rfl, hb1⟩
      go_wp2_with fail
      refine (right_any w.heap.size _ n0 c0 xs _ (h0.keep hb1) l0).mono ?_
      rw [Hbad.out]
      rintro e w3 ⟨rfl, rfl⟩
      have hs1 := hb1.size
      have own0 : (w1.alloc (.cells #[] 3)).ownsRow w.heap.size 3 1 (.slice (some ⟨w1.heap.size, 0, none⟩) 0 0) 0 [] :=
        ⟨rfl, .inr ⟨w1.heap.size, 0, #[], rfl, hs1, (by show (w1.heap.push (Obj.cells #[] 3))[w1.heap.size]? = _; simp), Nat.le_refl _, by simp, rfl, rfl⟩⟩
      have hb1a : Below w.heap.size w (w1.alloc (.cells #[] 3)) := hb1.alloc hs1 _
      have hnews : ∀ j u, (xs.map (Value.int .i64))[j]? = some u → (w1.alloc (.cells #[] 3)).cell? ((⟨ba, oa, none⟩ : Addr).add j) = some u := by
        intro j u hu
        rw [add_none]
        have hj : j < xs.length := by
          rcases Nat.lt_or_ge j xs.length with h | h
          · exact h
          · rw [List.getElem?_eq_none (by simpa using h)] at hu; simp at hu
        rw [HCA.out _ hb1a j hj]
        rw [List.getElem?_map, List.getElem?_eq_getElem hj] at hu
        exact hu
      have hnews := Lib.hid hnews
      have hbase : w.heap.size ≤ (w1.alloc (.cells #[] 3)).heap.size := by simp; omega
      go_wp2_with (at_builtin; refine wpList_append_own _ rfl _ _ 22 rfl w.heap.size 3 i0 (.int .i64 0) 1 8 Try.underlying22 hi hz0 hz1 hz2 rfl (by decide) _ _ _ rfl own0 ⟨ba, oa, none⟩ n0 c0 (xs.map (Value.int .i64)) rfl (by simp [hx0]) hnews.out ?c2 (by unfold maxLen; omega) (by omega) hbase ?_)
      case c2 => intro u hu; simp at hu; obtain ⟨x, _, rfl⟩ := hu; rfl
      intro v' w2 own2 gr2 _
      have hb2 : Below w.heap.size w w2 := hb1a.grown gr2 hbase (fun j e => ownsRow_block own0 j e)
      have hs2 := hb2.size
      obtain ⟨bo, capo, rfl, hbo, hbo2, hco, hcell2, hfz2⟩ := ownsRow_cells own2 (by omega)
      have hO : IntsBlk w2 bo xs := ⟨fun i hi => hcell2 i _ (by simp [hi]), hfz2, hbo2⟩
      have hOI : IntsIn w2.heap.size w2 (some ⟨bo, 0, none⟩) n0 xs := ⟨hx0, fun _ => ⟨bo, 0, rfl, hbo2, fun j hj => by rw [Nat.zero_add]; exact hO.cell j hj⟩⟩
      clear own0 own2 gr2 hcell2 hfz2 hnews
      go_wp2_with fail
      refine (new_good w2.heap.size _ _ _ xs _ hOI l0 Hbad.out (Nat.le_refl _)).mono ?_
      rintro e w3 ⟨⟨pa, qa, ca, rfl, hg3, hp, hq⟩, hb3⟩
      have hb03 : Below w.heap.size w w3 := hb2.trans (hb3.mono hs2)
      have hs3 := hb03.size
      have hO3 : IntsBlk w3 bo xs := hO.keep (Fr.of_below (S := fun _ => False) hb3) (by simp)
      clear hOI hO
      go_wp2_with fail
      refine (new_good w.heap.size _ _ _ xs _ (h0.keep hb03) l0 Hbad.out hs3).mono ?_
      rintro e w4 ⟨⟨pb, qb, cb, rfl, hg4, hp4, hq4⟩, hb4⟩
      have hS : St2 w w4 pa qa ca pb qb cb 0 n0 xs (newGates xs) (newGates xs) := by
        have e1 : (newGates xs).length = n0 := by simp [newGates, h0.1]
        have e2 : (newGates xs).map (·.apart) = xs := by simp [newGates, Function.comp_def]
        have hb04 : Below w.heap.size w w4 := hb03.trans (hb4.mono hs3)
        have p1 := hg3.p1
        have q1 := hg3.q1
        exact ⟨⟨hg3.keep (Fr.of_below (S := fun _ => False) hb4) (by simp) (by simp), hb04, by omega, e1, e2⟩, ⟨hg4, hb04, by omega, e1, e2⟩, by omega⟩
      have hO4 : IntsBlk w4 bo xs := hO3.keep (Fr.of_below (S := fun _ => False) hb4) (by simp)
      have hne : bo ≠ pa ∧ bo ≠ qa ∧ bo ≠ pb ∧ bo ≠ qb := by have := hO3.lt; omega
      clear hg3 hg4 hb3 hb4 hb03 hs3 hO3 hb2 hb1 hb1a hs1 hs2 hbase hp hq hp4 hq4 hbo2
      go_wp2_with fail
      go_loopw [10] (fun i wr => ∃ k : Nat, k ≤ n0 ∧ i = .int .i64 k ∧ St2 w wr pa qa ca pb qb cb 0 n0 xs (newGates xs) (newGates xs) ∧ IntsBlk wr bo (onesTo xs k)) (fun i _ => n0 - (intOf i).toNat)
      case atStart => exact ⟨0, Nat.zero_le _, rfl, hS, by simpa [onesTo] using hO4⟩
      case round =>
        clear hS hO4
        obtain ⟨k, hk, rfl, hS, hO⟩ := hrel
        by_cases hlt : k < n0
        · have hkx : k < xs.length := by omega
          have hkI : (k : Int) < (n0 : Int) := by omega
          have c1 := hO.cell k (by rw [onesTo_length]; exact hkx)
          rw [onesTo_at xs k hkx] at c1
          have f1 := hO.fz k
          have c2 := HCA.out wr hS.a.bel k hkx
          have hP := hO.put k (by rw [onesTo_length]; exact hkx) 1
          rw [← onesTo_succ xs k hkx] at hP
          have HP : Hid (∀ m, IntsBlk ((wr.drewN m).setCell ⟨bo, k, none⟩ (.int .i64 1)) bo (onesTo xs (k + 1))) := fun m => ⟨hP.cell, hP.fz, hP.lt⟩
          have HS : Hid (∀ m, St2 w ((wr.drewN m).setCell ⟨bo, k, none⟩ (.int .i64 1)) pa qa ca pb qb cb 0 n0 xs (newGates xs) (newGates xs)) := by
            intro m
            have f : Fr (· = bo) wr ((wr.drewN m).setCell ⟨bo, k, none⟩ (.int .i64 1)) := Fr.setCell (p := ⟨bo, k, none⟩) (⟨rfl, rfl, rfl, Nat.le_refl _, fun _ _ _ => rfl⟩ : Fr (· = bo) wr (wr.drewN m)) rfl _
            exact ⟨hS.a.keep f (by omega) (by omega) (by rintro i _ rfl; omega), hS.b.keep f (by omega) (by omega) (by rintro i _ rfl; omega), hS.ne⟩
          clear hP
          generalize xs[k] = x at *
          go_wp2_with fail
          go_quiet (fail)
          go_wp2_with fail
          go_roundw
          case rel => exact ⟨k + 1, by omega, by go_num, HS.out _, HP.out _⟩
          case measure => simp [intOf]; omega
        · have hS' : ∃ gs hs, St2 w wr pa qa ca pb qb cb 0 n0 xs gs hs ∧ Hid (hs = newGates xs) := ⟨_, _, hS, rfl⟩
          clear hS hO hne
          obtain ⟨gs0, hs0, hS, Hhs⟩ := hS'
          go_wp2_with fail
          go_loopw [11] (fun i wr => ∃ (j N : Nat) (gs : List Gate), j ≤ n1 ∧ i = .int .i64 j ∧ N ≤ j ∧ St2 w wr pa qa ca pb qb cb N n0 xs gs hs0) (fun i _ => n1 - (intOf i).toNat)
          case atStart => exact ⟨0, 0, _, Nat.zero_le _, rfl, Nat.le_refl _, hS⟩
          case round =>
            clear hS gs0
            obtain ⟨j, N, gs, hj, rfl, hN, hS⟩ := hrel
            by_cases hlt : j < n1
            · obtain ⟨hyl, hy⟩ := h1.keep hS.a.bel
              obtain ⟨b, off, rfl, hbB, hcc⟩ := hy (by omega)
              have hcell := hcc j (by omega)
              generalize ys[j].1 = g at hcell
              generalize ys[j].2 = t at hcell
              obtain ⟨cg, ct⟩ := hcell
              have H1 := Lib.hid h1; clear h1 hy hcc
              have hjI : (j : Int) < (n1 : Int) := by omega
              go_wp2_with fail
              go_still_tail 11, (by kernel_rfl)
              change wpList _ _ _ _ _ (World.drew _)
              have hS := hS.drew
              go_wp2_with fail
              refine (hS.goA (by omega) g t).mono ?_
              rintro e w6 ⟨rfl, hS6⟩
              generalize (goStep gs g t).1 = r
              generalize (goStep gs g t).2 = gs' at hS6
              go_wp2_with fail
              go_roundw
              case rel => exact ⟨j + 1, N + 1, gs', by omega, by go_num, by omega, hS6⟩
              case measure => simp [intOf]; omega
            · have hL := hS.a.len.out
              have hZ : Hid (gs.map Gate.zero = hs0) := by rw [Hhs.out]; exact zero_newGates gs xs hS.a.ap.out
              have HL := Lib.hid hL; clear hL
              go_wp2_with fail
              refine (reset_any pa qa ca N gs _ hS.a.g).mono ?_
              rintro e w6 ⟨rfl, hg6, hf6⟩
              have hS6 : St2 w w6 pa qa ca pb qb cb (N + gs.length) n0 xs hs0 hs0 := by
                rw [hZ.out] at hg6
                have hb6 : Below w.heap.size w w6 := hS.a.bel.trans (hf6.below (by rintro i _ rfl; have := hS.a.lo; omega) hS.a.bel.size)
                exact ⟨⟨hg6, hb6, hS.a.lo, hS.b.len, hS.b.ap⟩, (hS.b.keep hf6 (by have := hS.ne; omega) (by have := hS.ne; omega) (by rintro i _ rfl; have := hS.a.lo; omega)).more (by omega), hS.ne⟩
              have hN6 : N + gs.length ≤ 316 := by have := HL.out; omega
              generalize N + gs.length = N6 at *
              clear hS hg6 hf6 Hhs hZ HL gs
              go_wp2_with fail
              go_loopw [12] (fun i wr => ∃ (j N : Nat) (gs : List Gate), j ≤ n1 ∧ i = .int .i64 j ∧ N ≤ 316 + 2 * j ∧ St2 w wr pa qa ca pb qb cb N n0 xs gs gs) (fun i _ => n1 - (intOf i).toNat)
              case atStart => exact ⟨0, N6, hs0, Nat.zero_le _, rfl, by omega, hS6⟩
              case round =>
                clear hS6
                obtain ⟨j, N, gs, hj, rfl, hN, hS⟩ := hrel
                by_cases hlt : j < n1
                · obtain ⟨hyl, hy⟩ := h1.keep hS.a.bel
                  obtain ⟨b, off, rfl, hbB, hcc⟩ := hy (by omega)
                  obtain ⟨g, hgy⟩ : ∃ g, ys[j].1 = g := ⟨_, rfl⟩
                  obtain ⟨t, hty⟩ : ∃ t, ys[j].2 = t := ⟨_, rfl⟩
                  have HC : Hid (∀ w', Below w.heap.size w w' → w'.cell? ⟨b, off + j * 2, none⟩ = some (.int .i64 g) ∧ w'.cell? ⟨b, off + j * 2 + 1, none⟩ = some (.int .i64 t)) := by
                    intro w' hb
                    obtain ⟨b', off', e, _, hc'⟩ := (h1.keep hb).2 (by omega)
                    simp at e
                    obtain ⟨rfl, rfl⟩ := e
                    have := hc' j (by omega)
                    rw [hgy, hty] at this
                    exact this
                  clear hy hcc hgy hty
                  have hjI : (j : Int) < (n1 : Int) := by omega
                  obtain ⟨cg, ct⟩ := HC.out wr hS.a.bel
                  go_wp2_with fail
                  go_region_held3 (fun w' => w'.cell? ⟨b, off + j * 2, none⟩ = some (.int .i64 g) ∧ w'.cell? ⟨b, off + j * 2 + 1, none⟩ = some (.int .i64 t)) (first | exact HC.out _ (by assumption) | go_keep)
                    (first | (go_at_call_of 11 (Value.pointer (some ⟨pa, 0, none⟩)); refine ((hS.drew).goA (by omega) g t).mono ?_; rintro e w7 ⟨rfl, hS7⟩; have hbel7 := hS7.a.bel) | (go_at_call_of 11 (Value.pointer (some ⟨pb, 0, none⟩)); refine (hS7.goB (by omega) g t).mono ?_; rintro e w8 ⟨rfl, hS8⟩; have hbel8 := hS8.a.bel))
                  go_wp2_with fail
                  go_roundw
                  case rel => exact ⟨j + 1, N + 1 + 1, _, by omega, by go_num, by omega, hS8⟩
                  case measure => simp [intOf]; omega
                · go_wp2_with fail
                  go_ret
                  exact ⟨rfl, hS.a.bel⟩
  · have Hbad := Lib.hid hbad; clear hbad
    go_enter Try.func7, Try.ntmps7
    go_wp2_with fail
    refine (awake_any _).mono ?_
    rintro e w1 ⟨rfl, hb1⟩
    go_wp2_with fail
    refine (right_any w.heap.size a0 n0 c0 xs _ (h0.keep hb1) l0).mono ?_
    rw [Hbad.out]
    rintro e w3 ⟨rfl, rfl⟩
    go_wp2_with fail
    refine (awake_any _).mono ?_
    rintro e w2 ⟨rfl, hb2⟩
    go_wp2_with fail
    go_ret
    exact ⟨rfl, hb1.trans (hb2.mono hb1.size)⟩
end Go.Proofs.Ytbcoiemjbbbmkaa
