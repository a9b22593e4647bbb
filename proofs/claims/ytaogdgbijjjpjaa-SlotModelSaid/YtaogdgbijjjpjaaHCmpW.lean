/- HeapCompares: the walk. -/
import Derived.Test.YtaogdgbijjjpjaaCmpW
namespace Go.Proofs.Ytaogdgbijjjpjaa
open Go.RowKit
set_option linter.unusedVariables false

theorem orL_in (l : List Int) (h : ∀ x ∈ l, -1 ≤ x ∧ x ≤ 1) : -1 ≤ orL l ∧ orL l ≤ 1 := by
  induction l with
  | nil => exact ⟨by decide, by decide⟩
  | cons x l ih =>
    unfold orL
    split
    · exact ih fun y hy => h y (List.mem_cons_of_mem _ hy)
    · exact h x (List.mem_cons_self ..)
theorem cmp3_in (a b : Int) : -1 ≤ cmp3 a b ∧ cmp3 a b ≤ 1 := by unfold cmp3; split <;> try split
                                                                 all_goals omega
theorem cmpK_in (x y : Q) : -1 ≤ cmpK x y ∧ cmpK x y ≤ 1 := orL_in _ fun z hz => by
  simp only [List.mem_cons, List.not_mem_nil, or_false] at hz
  rcases hz with rfl | rfl | rfl | rfl <;> exact cmp3_in _ _

structure C4 (w : World) (b : Nat) (x0 x1 x2 x3 : Int) : Prop where
  c0 : w.cell? ⟨b, 0, none⟩ = some (.int .i64 x0)
  c1 : w.cell? ⟨b, 1, none⟩ = some (.int .i64 x1)
  c2 : w.cell? ⟨b, 2, none⟩ = some (.int .i64 x2)
  c3 : w.cell? ⟨b, 3, none⟩ = some (.int .i64 x3)
theorem C4.below {w w' : World} {b : Nat} {x0 x1 x2 x3 : Int} (h : C4 w b x0 x1 x2 x3) (hb : Below w.heap.size w w') : C4 w' b x0 x1 x2 x3 :=
  ⟨(hb.cell (p := ⟨b, 0, none⟩) (block_lt h.c0)).trans h.c0, (hb.cell (p := ⟨b, 1, none⟩) (block_lt (a := ⟨b, 0, none⟩) h.c0)).trans h.c1, (hb.cell (p := ⟨b, 2, none⟩) (block_lt (a := ⟨b, 0, none⟩) h.c0)).trans h.c2, (hb.cell (p := ⟨b, 3, none⟩) (block_lt (a := ⟨b, 0, none⟩) h.c0)).trans h.c3⟩
theorem C4.new (w : World) (b : Nat) (x0 x1 x2 x3 : Int) (T : TypeId) (hb : b = w.heap.size) : C4 (w.alloc (.cells #[.int .i64 x0, .int .i64 x1, .int .i64 x2, .int .i64 x3] T)) b x0 x1 x2 x3 :=
  ⟨cell_newb w _ T b 0 _ hb rfl, cell_newb w _ T b 1 _ hb rfl, cell_newb w _ T b 2 _ hb rfl, cell_newb w _ T b 3 _ hb rfl⟩

theorem eqQ {α : Type} (a b c d e f g h : Int) (y n : α) : (if a = e then if b = f then if c = g then if d = h then y else n else n else n else n) = if ((a, b, c, d) : Q) = (e, f, g, h) then y else n := by
  simp only [Prod.mk.injEq]
  by_cases h1 : a = e <;> by_cases h2 : b = f <;> by_cases h3 : c = g <;> by_cases h4 : d = h <;> simp [h1, h2, h3, h4]

set_option maxHeartbeats 40000000 in
set_option maxRecDepth 100000 in
theorem hcompares_walk (x y z : Q) (w : World) : Calls Try.prog 3 #[qv x, qv y, qv z] w fun e w' => e = .returned (.bool true) ∧ Below w.heap.size w w' := by
  have HR := Lib.hid (refCmp_any x y)
  have HU := Lib.hid (fun w => cmpK_from (w0 := w) x y (Below.refl _ _))
  have HV := Lib.hid (fun w => cmpK_from (w0 := w) y z (Below.refl _ _))
  have HN := Lib.hid (fun w => cmpK_from (w0 := w) y x (Below.refl _ _))
  have HT := Lib.hid (fun w => cmpK_from (w0 := w) x z (Below.refl _ _))
  have B := cmpK_in x y
  have HZ : Hid (cmpK x y = 0 ↔ x = y) := cmpK_zero x y
  have HL : Hid (¬ 0 < cmpK x y → ¬ 0 < cmpK y z → cmpK x z ≤ 0) := by
    intro h1 h2
    have a1 : ltK y x = false := by have := ltK_le x y; rw [decide_eq_true (by omega)] at this; simpa using this.symm
    have a2 : ltK z y = false := by have := ltK_le y z; rw [decide_eq_true (by omega)] at this; simpa using this.symm
    have a3 : ltK z x = false := by rw [ltK_not] at *; omega
    have := ltK_le x z
    rw [a3] at this
    simpa using this
  rw [cmpK_neg y x] at HN
  generalize cmpK x y = u at *
  generalize cmpK y z = v at *
  generalize cmpK x z = t at *
  obtain ⟨x0, x1, x2, x3⟩ := x
  obtain ⟨y0, y1, y2, y3⟩ := y
  obtain ⟨z0, z1, z2, z3⟩ := z
  unfold qv at *
  simp only at *
  have nw : IntKind.i64.wrap (-u) = -u := IntWalk.i64_in _ (by omega)
  go_enter Try.func3, Try.ntmps3
  go_wp2_with fail
  obtain ⟨w1, e1⟩ : ∃ w1, w.alloc (.cells #[.int .i64 x0, .int .i64 x1, .int .i64 x2, .int .i64 x3] 23) = w1 := ⟨_, rfl⟩
  have p1 : C4 w1 w.heap.size x0 x1 x2 x3 := e1 ▸ C4.new w _ _ _ _ _ _ rfl
  have s1 : w1.heap.size = w.heap.size + 1 := by rw [← e1]; simp
  have g1 : Below w.heap.size w w1 := by rw [← e1]; exact (Below.refl _ w).alloc (Nat.le_refl _) _
  rw [e1]
  obtain ⟨w2, e2⟩ : ∃ w2, w1.alloc (.cells #[.int .i64 y0, .int .i64 y1, .int .i64 y2, .int .i64 y3] 23) = w2 := ⟨_, rfl⟩
  have q2 : C4 w2 (w.heap.size + 1) y0 y1 y2 y3 := e2 ▸ C4.new w1 _ _ _ _ _ _ (by omega)
  have b2 : Below w1.heap.size w1 w2 := by rw [← e2]; exact (Below.refl _ w1).alloc (Nat.le_refl _) _
  have p2 := p1.below b2
  have g2 := g1.trans (b2.mono g1.size)
  have s2 : w2.heap.size = w.heap.size + 1 + 1 := by rw [← e2]; simp [s1]
  rw [e2]
  obtain ⟨w3, e3⟩ : ∃ w3, w2.alloc (.cells #[.int .i64 z0, .int .i64 z1, .int .i64 z2, .int .i64 z3] 23) = w3 := ⟨_, rfl⟩
  have r3 : C4 w3 (w.heap.size + 1 + 1) z0 z1 z2 z3 := e3 ▸ C4.new w2 _ _ _ _ _ _ (by omega)
  have b3 : Below w2.heap.size w2 w3 := by rw [← e3]; exact (Below.refl _ w2).alloc (Nat.le_refl _) _
  have p3 := p2.below b3
  have q3 := q2.below b3
  have g3 := g2.trans (b3.mono g2.size)
  rw [e3]
  clear e1 e2 e3 p1 p2 q2 b2 b3 g1 g2 s1 s2
  have HW := Lib.hid (hawake_any w3)
  have K3 : Hid (∀ W, Below w3.heap.size w3 W → (C4 W w.heap.size x0 x1 x2 x3 ∧ C4 W (w.heap.size + 1) y0 y1 y2 y3 ∧ C4 W (w.heap.size + 1 + 1) z0 z1 z2 z3) ∧ Below w.heap.size w W) := fun W hb => ⟨⟨p3.below hb, q3.below hb, r3.below hb⟩, g3.trans (hb.mono g3.size)⟩
  clear p3 q3 r3 g3
  refine HW.out.mono ?_
  rintro e w4 ⟨rfl, h4⟩
  obtain ⟨⟨⟨a0, a1, a2, a3⟩, ⟨b0, b1, b2, b3⟩, c0, c1, c2, c3⟩, _⟩ := K3.out _ h4
  go_wp2_with fail
  refine (HU.out _).mono ?_
  rintro e w5 ⟨rfl, h5⟩
  have h5' := h4.trans (h5.mono h4.size)
  clear a0 a1 a2 a3 b0 b1 b2 b3 c0 c1 c2 c3
  obtain ⟨⟨⟨a0, a1, a2, a3⟩, ⟨b0, b1, b2, b3⟩, c0, c1, c2, c3⟩, _⟩ := K3.out _ h5'
  go_wp2_with fail
  refine (HV.out _).mono ?_
  rintro e w6 ⟨rfl, h6⟩
  have h6' := h5'.trans (h6.mono h5'.size)
  clear a0 a1 a2 a3 b0 b1 b2 b3 c0 c1 c2 c3
  obtain ⟨⟨⟨a0, a1, a2, a3⟩, ⟨b0, b1, b2, b3⟩, c0, c1, c2, c3⟩, _⟩ := K3.out _ h6'
  go_wp2_with fail
  refine (HR.out _).mono ?_
  rintro e w7 ⟨rfl, h7⟩
  have h7' := h6'.trans (h7.mono h6'.size)
  clear a0 a1 a2 a3 b0 b1 b2 b3 c0 c1 c2 c3
  obtain ⟨⟨⟨a0, a1, a2, a3⟩, ⟨b0, b1, b2, b3⟩, c0, c1, c2, c3⟩, _⟩ := K3.out _ h7'
  go_wp2_with fail
  refine (HN.out _).mono ?_
  rintro e w8 ⟨rfl, h8⟩
  have h8' := h7'.trans (h8.mono h7'.size)
  clear a0 a1 a2 a3 b0 b1 b2 b3 c0 c1 c2 c3
  obtain ⟨⟨⟨a0, a1, a2, a3⟩, ⟨b0, b1, b2, b3⟩, c0, c1, c2, c3⟩, hg8⟩ := K3.out _ h8'
  have tz : ¬ 0 < u → ¬ 0 < v → t ≤ 0 := fun a b => HL.out (by omega) (by omega)
  by_cases hxy : ((x0, x1, x2, x3) : Q) = (y0, y1, y2, y3)
  · have hu := HZ.out.2 hxy
    simp only [Prod.mk.injEq] at hxy
    obtain ⟨rfl, rfl, rfl, rfl⟩ := hxy
    subst hu
    by_cases hv : 0 < v
    · go_wp2_with fail
      go_ret
      exact ⟨rfl, hg8⟩
    · have ht := tz (by omega) hv
      go_wp2_with fail
      refine (HT.out _).mono ?_
      rintro e w9 ⟨rfl, h9⟩
      have hg9 := hg8.trans (h9.mono hg8.size)
      go_wp2_with fail
      go_ret
      exact ⟨rfl, hg9⟩
  · have hu0 : ¬ u = 0 := fun h => hxy (HZ.out.1 h)
    have hu : (u == 0) = false := by simp [hu0]
    have HX : Hid (x0 = y0 → x1 = y1 → x2 = y2 → x3 = y3 → False) := fun a b c d => hxy (by rw [a, b, c, d])
    clear hxy HZ HL
    by_cases d0 : x0 = y0
    · subst d0
      by_cases d1 : x1 = y1
      · subst d1
        by_cases d2 : x2 = y2
        · subst d2
          by_cases d3 : x3 = y3
          · subst d3
            exact (HX.out rfl rfl rfl rfl).elim
          · clear HX
            by_cases hu1 : 0 < u
            · go_wp2_with fail
              go_ret
              exact ⟨rfl, hg8⟩
            · by_cases hv : 0 < v
              · go_wp2_with fail
                go_ret
                exact ⟨rfl, hg8⟩
              · have ht := tz hu1 hv
                go_wp2_with fail
                refine (HT.out _).mono ?_
                rintro e w9 ⟨rfl, h9⟩
                have hg9 := hg8.trans (h9.mono hg8.size)
                go_wp2_with fail
                go_ret
                exact ⟨rfl, hg9⟩
        · clear HX
          by_cases hu1 : 0 < u
          · go_wp2_with fail
            go_ret
            exact ⟨rfl, hg8⟩
          · by_cases hv : 0 < v
            · go_wp2_with fail
              go_ret
              exact ⟨rfl, hg8⟩
            · have ht := tz hu1 hv
              go_wp2_with fail
              refine (HT.out _).mono ?_
              rintro e w9 ⟨rfl, h9⟩
              have hg9 := hg8.trans (h9.mono hg8.size)
              go_wp2_with fail
              go_ret
              exact ⟨rfl, hg9⟩
      · clear HX
        by_cases hu1 : 0 < u
        · go_wp2_with fail
          go_ret
          exact ⟨rfl, hg8⟩
        · by_cases hv : 0 < v
          · go_wp2_with fail
            go_ret
            exact ⟨rfl, hg8⟩
          · have ht := tz hu1 hv
            go_wp2_with fail
            refine (HT.out _).mono ?_
            rintro e w9 ⟨rfl, h9⟩
            have hg9 := hg8.trans (h9.mono hg8.size)
            go_wp2_with fail
            go_ret
            exact ⟨rfl, hg9⟩
    · clear HX
      by_cases hu1 : 0 < u
      · go_wp2_with fail
        go_ret
        exact ⟨rfl, hg8⟩
      · by_cases hv : 0 < v
        · go_wp2_with fail
          go_ret
          exact ⟨rfl, hg8⟩
        · have ht := tz hu1 hv
          go_wp2_with fail
          refine (HT.out _).mono ?_
          rintro e w9 ⟨rfl, h9⟩
          have hg9 := hg8.trans (h9.mono hg8.size)
          go_wp2_with fail
          go_ret
          exact ⟨rfl, hg9⟩
end Go.Proofs.Ytaogdgbijjjpjaa
