/- THE FRAME for []Act of five numbers. -/
import Derived.Test.YthmbbbdnfgefbaaLiftA
import Derived.Test.YthmbbbdnfgefbaaPM1
namespace Go.Proofs.Ythmbbbdnfgefbaa
open Go.ChangeShapes Go.WideShapes Go.ChangeAt Go.RowKit Go.Deep
set_option linter.unusedVariables false

section
variable {H : Type} {enc : TypeId × Value → H} {w : World} {spare : Nat → Bool} {held : Bool} {base : Nat}
theorem i64_of {n : Int} (h : (Lit.int .i64 n).wf = true) : I64 n := by
  simp [Lit.wf] at h
  have e1 : IntKind.i64.min = -9223372036854775808 := rfl
  have e2 : IntKind.i64.max = 9223372036854775807 := rfl
  unfold I64
  omega
theorem acts5_of {fuel : Nat} {v : Value} {x : DataW H × List MemPlace}
    (h : DataW.trod enc Try.prog w base spare held fuel 50 [v] = some x) :
    ∃ a n c xs, v = .slice a n c ∧ A5sIn w.heap.size w a n xs ∧ n ≤ 9223372036854775807 ∧ ∀ z ∈ xs, I64 z.1 ∧ I64 z.2.1 ∧ I64 z.2.2.1 ∧ I64 z.2.2.2.1 ∧ I64 z.2.2.2.2 := by
  rcases open_slice_fields Try.underlying50 Try.underlying56 (by kernel_rfl) (by kernel_rfl) h with ⟨hcs, _⟩ | ⟨a, l, c, m, D, Pl, hcs, _, hl, hm, hmm, _, hat⟩
  · simp at hcs; subst hcs
    exact ⟨none, 0, 0, [], rfl, ⟨rfl, fun h => by omega⟩, by omega, by simp⟩
  · simp at hcs; subst hcs
    have hlm : l ≤ m := by rw [hmm]; split <;> omega
    have hx : ∀ i, ∃ y : Int × Int × Int × Int × Int, i < l → (w.cell? (a.add (i * 5)) = some (.int .i64 y.1) ∧ w.cell? (a.add (i * 5 + 1)) = some (.int .i64 y.2.1) ∧ w.cell? (a.add (i * 5 + 2)) = some (.int .i64 y.2.2.1) ∧ w.cell? (a.add (i * 5 + 3)) = some (.int .i64 y.2.2.2.1) ∧ w.cell? (a.add (i * 5 + 4)) = some (.int .i64 y.2.2.2.2)) ∧ I64 y.1 ∧ I64 y.2.1 ∧ I64 y.2.2.1 ∧ I64 y.2.2.2.1 ∧ I64 y.2.2.2.2 := by
      intro i
      by_cases hi : i < l
      · obtain ⟨ys, nn, _, _, _, hf⟩ := hat i (by omega)
        obtain ⟨v0, y0, c0, _, t0⟩ := hf 0 _ rfl
        obtain ⟨v1, y1, c1, _, t1⟩ := hf 1 _ rfl
        obtain ⟨v2, y2, c2, _, t2⟩ := hf 2 _ rfl
        obtain ⟨v3, y3, c3, _, t3⟩ := hf 3 _ rfl
        obtain ⟨v4, y4, c4, _, t4⟩ := hf 4 _ rfl
        obtain ⟨n0, e0, w0⟩ := int_one t0
        obtain ⟨n1, e1, w1⟩ := int_one t1
        obtain ⟨n2, e2, w2⟩ := int_one t2
        obtain ⟨n3, e3, w3⟩ := int_one t3
        obtain ⟨n4, e4, w4⟩ := int_one t4
        subst e0 e1 e2 e3 e4
        exact ⟨(n0, n1, n2, n3, n4), fun _ => ⟨⟨c0, c1, c2, c3, c4⟩, i64_of w0, i64_of w1, i64_of w2, i64_of w3, i64_of w4⟩⟩
      · exact ⟨(0, 0, 0, 0, 0), fun h => absurd h hi⟩
    obtain ⟨f, hf⟩ := Classical.skolem.1 hx
    refine ⟨some a, l, c, (List.range l).map f, rfl, ⟨by simp, fun h0 => ?_⟩, by unfold maxLen at hm; omega, fun z hz => ?_⟩
    · obtain ⟨b, off, spot⟩ := a
      have hc0 := (hf 0 h0).1.1
      have hsp := World.cell?_spot hc0
      simp only [Addr.add, Nat.zero_mul, if_true] at hsp
      have : spot = none := hsp
      subst this
      refine ⟨b, off, rfl, block_lt hc0, fun j hj => ?_⟩
      have hj' : j < l := by simpa using hj
      have h1 := (hf j hj').1
      rw [add_none, add_none, add_none, add_none, add_none] at h1
      simp only [List.getElem_map, List.getElem_range]
      exact ⟨h1.1, h1.2.1, h1.2.2.1, h1.2.2.2.1, h1.2.2.2.2⟩
    · simp only [List.mem_map, List.mem_range] at hz
      obtain ⟨i, hi, rfl⟩ := hz
      exact (hf i hi).2
end
end Go.Proofs.Ythmbbbdnfgefbaa
