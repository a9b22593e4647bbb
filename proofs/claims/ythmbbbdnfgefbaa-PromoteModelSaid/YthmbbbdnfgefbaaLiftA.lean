/- THE FRAME for []Act, structs in structs. -/
import Derived.Test.YthmbbbdnfgefbaaLift
import Derived.Test.YthmbbbdnfgefbaaM1
namespace Go.Proofs.Ythmbbbdnfgefbaa
open Go.ChangeShapes Go.WideShapes Go.ChangeAt Go.RowKit Go.Deep
set_option linter.unusedVariables false

theorem cells32 : Try.prog.cellsOf 32 = 3 := by kernel_rfl
theorem cells30 : Try.prog.cellsOf 30 = 2 := by kernel_rfl
theorem cells3 : Try.prog.cellsOf 3 = 1 := by kernel_rfl

section
variable {H : Type} {enc : TypeId × Value → H} {w : World} {spare : Nat → Bool} {held : Bool} {base : Nat}
theorem int_one {fuel : Nat} {u : Value} {x : DataW H × List MemPlace} (h : DataW.trod enc Try.prog w base spare held fuel 3 [u] = some x) : ∃ n, u = .int .i64 n ∧ (Lit.int .i64 n).wf = true := by
  obtain ⟨n, e, _, hw⟩ := DataW.trod_int Try.underlying3 h
  simp at e
  exact ⟨n, e, hw⟩

set_option maxRecDepth 100000 in
theorem act_of {fuel : Nat} {cs : List Value} {x : DataW H × List MemPlace} (h : DataW.trod enc Try.prog w base spare held fuel 32 cs = some x) :
    ∃ a b c : Int, cs = [.int .i64 a, .int .i64 b, .int .i64 c] ∧ (Lit.int .i64 a).wf = true ∧ (Lit.int .i64 b).wf = true ∧ (Lit.int .i64 c).wf = true := by
  obtain ⟨xs, n, _, _, hl, hxl, hf⟩ := DataW.trod_struct Try.underlying32 h
  rw [cells32] at hl
  have hxl' : xs.length = 2 := hxl
  match cs, hl with
  | [u0, u1, u2], _ =>
    have h0 : DataW.trod enc Try.prog w base spare held n 3 (([u0, u1, u2].drop 0).take (Try.prog.cellsOf 3)) = xs[0]? := hf 0 _ rfl
    have h1 : DataW.trod enc Try.prog w base spare held n 30 (([u0, u1, u2].drop 1).take (Try.prog.cellsOf 30)) = xs[1]? := hf 1 _ rfl
    rw [cells3] at h0
    rw [cells30] at h1
    have e0 : xs[0]? = some (xs[0]'(by omega)) := List.getElem?_eq_getElem (by omega)
    have e1 : xs[1]? = some (xs[1]'(by omega)) := List.getElem?_eq_getElem (by omega)
    obtain ⟨a, rfl, ra⟩ := int_one (u := u0) (h0.trans e0)
    obtain ⟨ys, n', _, _, _, hyl, hg⟩ := DataW.trod_struct Try.underlying30 (h1.trans e1)
    have hyl' : ys.length = 2 := hyl
    have g0 : DataW.trod enc Try.prog w base spare held n' 3 (([u1, u2].drop 0).take (Try.prog.cellsOf 3)) = ys[0]? := hg 0 _ rfl
    have g1 : DataW.trod enc Try.prog w base spare held n' 3 (([u1, u2].drop 1).take (Try.prog.cellsOf 3)) = ys[1]? := hg 1 _ rfl
    rw [cells3] at g0 g1
    have k0 : ys[0]? = some (ys[0]'(by omega)) := List.getElem?_eq_getElem (by omega)
    have k1 : ys[1]? = some (ys[1]'(by omega)) := List.getElem?_eq_getElem (by omega)
    obtain ⟨b, rfl, rb⟩ := int_one (u := u1) (g0.trans k0)
    obtain ⟨c, rfl, rc⟩ := int_one (u := u2) (g1.trans k1)
    exact ⟨a, b, c, rfl, ra, rb, rc⟩

theorem acts_of {fuel : Nat} {v : Value} {x : DataW H × List MemPlace}
    (h : DataW.trod enc Try.prog w base spare held fuel 22 [v] = some x) :
    ∃ a n c xs, v = .slice a n c ∧ ActsIn w.heap.size w a n xs ∧ n ≤ 9223372036854775807 ∧ ∀ z ∈ xs, (Lit.int .i64 z.1).wf = true ∧ (Lit.int .i64 z.2.1).wf = true ∧ (Lit.int .i64 z.2.2).wf = true := by
  rcases open_slice Try.underlying22 h with ⟨hcs, _⟩ | ⟨a, l, c, m, nn, D, Pl, hcs, _, hl, hm, hmm, _, hat⟩
  · simp at hcs; subst hcs
    exact ⟨none, 0, 0, [], rfl, ⟨rfl, fun h => by omega⟩, by omega, by simp⟩
  · simp at hcs; subst hcs
    have hlm : l ≤ m := by rw [hmm]; split <;> omega
    have hx : ∀ i, ∃ y : Int × Int × Int, i < l → w.cell? (a.add (i * 3)) = some (.int .i64 y.1) ∧ w.cell? ((a.add (i * 3)).add 1) = some (.int .i64 y.2.1) ∧ w.cell? ((a.add (i * 3)).add 2) = some (.int .i64 y.2.2) ∧ (Lit.int .i64 y.1).wf = true ∧ (Lit.int .i64 y.2.1).wf = true ∧ (Lit.int .i64 y.2.2).wf = true := by
      intro i
      by_cases hi : i < l
      · obtain ⟨cs', hc, ht⟩ := hat i (by omega)
        rw [cells32] at hc
        obtain ⟨p, q, r, rfl, wp, wq, wr⟩ := act_of ht
        obtain ⟨_, hcl, hcell⟩ := World.cells?_some hc
        have c0 := hcell 0 (by omega)
        have c1 := hcell 1 (by omega)
        have c2 := hcell 2 (by omega)
        refine ⟨(p, q, r), fun _ => ⟨?_, ?_, ?_, wp, wq, wr⟩⟩
        · have e : (a.add (i * 3)).add 0 = a.add (i * 3) := by unfold Addr.add; simp
          rw [e] at c0
          exact c0
        · exact c1
        · exact c2
      · exact ⟨(0, 0, 0), fun h => absurd h hi⟩
    obtain ⟨f, hf⟩ := Classical.skolem.1 hx
    refine ⟨some a, l, c, (List.range l).map f, rfl, ⟨by simp, fun h0 => ?_⟩, by unfold maxLen at hm; omega, ?_⟩
    · obtain ⟨b, off, spot⟩ := a
      have hc0 := (hf 0 h0).1
      have hsp := World.cell?_spot hc0
      simp only [Addr.add, Nat.zero_mul, if_true] at hsp
      have : spot = none := hsp
      subst this
      refine ⟨b, off, rfl, block_lt hc0, fun j hj => ?_⟩
      have hj' : j < l := by simpa using hj
      have h1 := hf j hj'
      rw [add_none, add_none, add_none] at h1
      simp only [List.getElem_map, List.getElem_range]
      exact ⟨h1.1, h1.2.1, h1.2.2.1⟩
    · intro z hz
      simp only [List.mem_map, List.mem_range] at hz
      obtain ⟨i, hi, rfl⟩ := hz
      exact (hf i hi).2.2.2
end
end Go.Proofs.Ythmbbbdnfgefbaa
