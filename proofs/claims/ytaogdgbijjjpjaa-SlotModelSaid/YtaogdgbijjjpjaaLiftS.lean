/- THE FRAME for []Act of six numbers. -/
import Derived.Test.YtaogdgbijjjpjaaLift
import Derived.Test.YtaogdgbijjjpjaaSL8
namespace Go.Proofs.Ytaogdgbijjjpjaa
open Go.ChangeShapes Go.WideShapes Go.ChangeAt Go.RowKit Go.Deep
set_option linter.unusedVariables false

section
variable {H : Type} {enc : TypeId × Value → H} {w : World} {spare : Nat → Bool} {held : Bool} {base : Nat}
theorem acts6_of {fuel : Nat} {v : Value} {x : DataW H × List MemPlace}
    (h : DataW.trod enc Try.prog w base spare held fuel 50 [v] = some x) :
    ∃ a n c xs, v = .slice a n c ∧ A6In w.heap.size w a n xs ∧ n ≤ 9223372036854775807 ∧ ∀ z ∈ xs, True := by
  rcases open_slice_fields Try.underlying50 Try.underlying57 (by kernel_rfl) (by kernel_rfl) h with ⟨hcs, _⟩ | ⟨a, l, c, m, D, Pl, hcs, _, hl, hm, hmm, _, hat⟩
  · simp at hcs; subst hcs
    exact ⟨none, 0, 0, [], rfl, ⟨rfl, fun h => by omega⟩, by omega, by simp⟩
  · simp at hcs; subst hcs
    have hlm : l ≤ m := by rw [hmm]; split <;> omega
    have hx : ∀ i, ∃ y : Int × Int × Int × Int × Int × Int, i < l → w.cell? (a.add (i * 6)) = some (.int .i64 y.1) ∧ w.cell? (a.add (i * 6 + 1)) = some (.int .i64 y.2.1) ∧ w.cell? (a.add (i * 6 + 2)) = some (.int .i64 y.2.2.1) ∧ w.cell? (a.add (i * 6 + 3)) = some (.int .i64 y.2.2.2.1) ∧ w.cell? (a.add (i * 6 + 4)) = some (.int .i64 y.2.2.2.2.1) ∧ w.cell? (a.add (i * 6 + 5)) = some (.int .i64 y.2.2.2.2.2) := by
      intro i
      by_cases hi : i < l
      · obtain ⟨ys, nn, _, _, _, hf⟩ := hat i (by omega)
        obtain ⟨v0, y0, c0, _, t0⟩ := hf 0 _ rfl
        obtain ⟨v1, y1, c1, _, t1⟩ := hf 1 _ rfl
        obtain ⟨v2, y2, c2, _, t2⟩ := hf 2 _ rfl
        obtain ⟨v3, y3, c3, _, t3⟩ := hf 3 _ rfl
        obtain ⟨v4, y4, c4, _, t4⟩ := hf 4 _ rfl
        obtain ⟨v5, y5, c5, _, t5⟩ := hf 5 _ rfl
        obtain ⟨n0, e0⟩ := int_one t0
        obtain ⟨n1, e1⟩ := int_one t1
        obtain ⟨n2, e2⟩ := int_one t2
        obtain ⟨n3, e3⟩ := int_one t3
        obtain ⟨n4, e4⟩ := int_one t4
        obtain ⟨n5, e5⟩ := int_one t5
        subst e0 e1 e2 e3 e4 e5
        exact ⟨(n0, n1, n2, n3, n4, n5), fun _ => ⟨c0, c1, c2, c3, c4, c5⟩⟩
      · exact ⟨(0, 0, 0, 0, 0, 0), fun h => absurd h hi⟩
    obtain ⟨f, hf⟩ := Classical.skolem.1 hx
    refine ⟨some a, l, c, (List.range l).map f, rfl, ⟨by simp, fun h0 => ?_⟩, by unfold maxLen at hm; omega, fun _ _ => trivial⟩
    obtain ⟨b, off, spot⟩ := a
    have hc0 := (hf 0 h0).1
    have hsp := World.cell?_spot hc0
    simp only [Addr.add, Nat.zero_mul, if_true] at hsp
    have : spot = none := hsp
    subst this
    refine ⟨b, off, rfl, block_lt hc0, fun j hj => ?_⟩
    have hj' : j < l := by simpa using hj
    have h1 := hf j hj'
    rw [add_none, add_none, add_none, add_none, add_none, add_none] at h1
    simp only [List.getElem_map, List.getElem_range]
    exact ⟨h1.1, h1.2.1, h1.2.2.1, h1.2.2.2.1, h1.2.2.2.2.1, h1.2.2.2.2.2⟩
end
end Go.Proofs.Ytaogdgbijjjpjaa
