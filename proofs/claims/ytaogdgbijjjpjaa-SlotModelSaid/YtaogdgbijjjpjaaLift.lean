/- THE FRAME: from a walk over what the arguments hold to the given statement. -/
import Derived.Test.YtaogdgbijjjpjaaRows
import Derived.Test.YtaogdgbijjjpjaaCore
import Derived.WalkKit
import Derived.ProofKit
import Derived.OpenShut
import Derived.ChangeOld
import Derived.Below
import Derived.Deep.Slices
import Derived.Deep.Fields
import Derived.ChangeSame
import Derived.Lib.SmallJoins
namespace Go.Proofs.Ytaogdgbijjjpjaa
open Go.ChangeShapes Go.WideShapes Go.ChangeAt Go.RowKit Go.Deep Go.Joins
set_option linter.unusedVariables false

theorem own : ownKnob Try.prog.godebug = none := by kernel_rfl
theorem laidOut : laidOutB Try.prog = true := by kernel_rfl

section
variable {H : Type} {enc : TypeId × Value → H} {P : Program} {w : World} {base : Nat} {spare : Nat → Bool} {held : Bool}
theorem open_slice_fields {t e : TypeId} {fs : Array Field} {fuel : Nat} {cs : List Value} {x : DataW H × List MemPlace} (ht : P.underlying t = some (.slice e)) (he : P.underlying e = some (.struct fs))
    (hone : oneCellFields P fs = true) (hC : P.cellsOf e = fs.size) (h : DataW.trod enc P w base spare held fuel t cs = some x) :
    (cs = [.slice none 0 0] ∧ x = (.nil, [])) ∨
    ∃ (a : Addr) (len cap m : Nat) (D : Nat → DataW H) (Pl : Nat → List MemPlace), cs = [.slice (some a) len cap] ∧ base ≤ a.block ∧ len ≤ cap ∧ cap ≤ maxLen ∧ m = (if spare a.block then cap else len) ∧
      x = (.slice ((List.range len).map D) ((List.range (m - len)).map fun j => D (len + j)), MemPlace.row a (m * fs.size) ++ (List.range m).flatMap Pl) ∧
      ∀ i, i < m → ∃ (ys : List (DataW H × List MemPlace)) (n : Nat), D i = .agg (ys.map (·.1)) ∧ Pl i = ys.flatMap (·.2) ∧ ys.length = fs.size ∧
        ∀ (j : Nat) (f : Field), fs[j]? = some f → ∃ (v : Value) (y : DataW H × List MemPlace), w.cell? (a.add (i * fs.size + j)) = some v ∧ ys[j]? = some y ∧ DataW.trod enc P w base spare held n f.type [v] = some y := by
  rcases open_slice ht h with h0 | ⟨a, len, cap, m, n, D, Pl, hcs, hb, hl, hm, hmm, hx, hi⟩
  · exact .inl h0
  · refine .inr ⟨a, len, cap, m, D, Pl, hcs, hb, hl, hm, hmm, by rw [hC] at hx; exact hx, fun i him => ?_⟩
    obtain ⟨cs', hc, ht'⟩ := hi i him
    rw [hC] at hc
    obtain ⟨ys, n', hn', hy, hlen, hyl, hf⟩ := DataW.trod_struct he ht'
    obtain ⟨_, hcl, hat⟩ := World.cells?_some hc
    simp only [Prod.mk.injEq] at hy
    refine ⟨ys, n', hy.1, hy.2, hyl, fun j f hj => ?_⟩
    obtain ⟨ho, hk⟩ := hone_of hone j f hj
    have hjl : j < fs.size := (Array.getElem?_eq_some_iff.1 hj).1
    have hcell := hat j hjl
    have hv : cs'[j]? = some (cs'[j]'(by omega)) := List.getElem?_eq_getElem (by omega)
    have h1 := hf j f hj
    rw [ho, hk] at h1
    have hone' : (cs'.drop j).take 1 = [cs'[j]'(by omega)] := by
      rw [List.drop_eq_getElem_cons (by omega)]
      rfl
    rw [hone'] at h1
    have hys : ys[j]? = some (ys[j]'(by omega)) := List.getElem?_eq_getElem (by omega)
    refine ⟨_, _, ?_, hys, h1.trans hys⟩
    rw [← Go.Deep.add_add, hcell, hv]
end



section
variable {H : Type} {enc : TypeId × Value → H} {w : World} {spare : Nat → Bool} {held : Bool} {base : Nat}
theorem int_one {fuel : Nat} {u : Value} {x : DataW H × List MemPlace} (h : DataW.trod enc Try.prog w base spare held fuel 3 [u] = some x) : ∃ n, u = .int .i64 n := by
  obtain ⟨n, e, _, hw⟩ := DataW.trod_int Try.underlying3 h
  simp at e
  exact ⟨n, e⟩

/-- What the walk is told of an argument '[]Key'. -/
theorem keys_of {fuel : Nat} {v : Value} {x : DataW H × List MemPlace}
    (h : DataW.trod enc Try.prog w base spare held fuel 27 [v] = some x) :
    ∃ a n c xs, v = .slice a n c ∧ QsIn w.heap.size w a n xs ∧ n ≤ 9223372036854775807 ∧ ∀ z ∈ xs, True := by
  rcases open_slice_fields Try.underlying27 Try.underlying23 (by kernel_rfl) (by kernel_rfl) h with ⟨hcs, _⟩ | ⟨a, l, c, m, D, Pl, hcs, _, hl, hm, hmm, _, hat⟩
  · simp at hcs; subst hcs
    exact ⟨none, 0, 0, [], rfl, ⟨rfl, fun h => by omega⟩, by omega, by simp⟩
  · simp at hcs; subst hcs
    have hlm : l ≤ m := by rw [hmm]; split <;> omega
    have hx : ∀ i, ∃ y : Q, i < l → w.cell? (a.add (i * 4)) = some (.int .i64 y.1) ∧ w.cell? (a.add (i * 4 + 1)) = some (.int .i64 y.2.1) ∧ w.cell? (a.add (i * 4 + 2)) = some (.int .i64 y.2.2.1) ∧ w.cell? (a.add (i * 4 + 3)) = some (.int .i64 y.2.2.2) := by
      intro i
      by_cases hi : i < l
      · obtain ⟨ys, nn, _, _, _, hf⟩ := hat i (by omega)
        obtain ⟨v0, y0, c0, _, t0⟩ := hf 0 _ rfl
        obtain ⟨v1, y1, c1, _, t1⟩ := hf 1 _ rfl
        obtain ⟨v2, y2, c2, _, t2⟩ := hf 2 _ rfl
        obtain ⟨v3, y3, c3, _, t3⟩ := hf 3 _ rfl
        obtain ⟨n0, e0⟩ := int_one t0
        obtain ⟨n1, e1⟩ := int_one t1
        obtain ⟨n2, e2⟩ := int_one t2
        obtain ⟨n3, e3⟩ := int_one t3
        subst e0 e1 e2 e3
        exact ⟨(n0, n1, n2, n3), fun _ => ⟨c0, c1, c2, c3⟩⟩
      · exact ⟨(0, 0, 0, 0), fun h => absurd h hi⟩
    obtain ⟨f, hf⟩ := Classical.skolem.1 hx
    refine ⟨some a, l, c, (List.range l).map f, rfl, ⟨by simp, fun h0 => ?_⟩, by unfold maxLen at hm; omega, fun _ _ => trivial⟩
    obtain ⟨b, off, spot⟩ := a
    have hc0 := (hf 0 h0).1
    have hsp := World.cell?_spot hc0
    simp only [Addr.add, Nat.zero_mul, if_true] at hsp
    have : spot = none := hsp
    subst this
    refine ⟨b, off, rfl, block_lt hc0, fun j hj => ?_⟩
    have hj' : j < l := by simpa using hj
    have h1 := hf j hj'
    rw [add_none, add_none, add_none, add_none] at h1
    simp only [List.getElem_map, List.getElem_range]
    exact ⟨h1.1, h1.2.1, h1.2.2.1, h1.2.2.2⟩

set_option maxRecDepth 100000 in
/-- What the walk is told of an argument 'Key'. -/
theorem key_of {r : Reach} {b0 : Nat} {v : Value} {d : DataW H} {p : List MemPlace} (hv : Value.okWide Try.prog w r b0 23 v) (h : DataW.Trod enc Try.prog w base spare held 23 v d p) : ∃ x : Q, v = qv x := by
  obtain ⟨v0, v1, v2, v3, y0, y1, y2, y3, n, rfl, _, _, t0, t1, t2, t3⟩ := open_agg4 Try.underlying23 (by kernel_rfl) (by kernel_rfl) hv h
  obtain ⟨n0, rfl⟩ := int_one t0
  obtain ⟨n1, rfl⟩ := int_one t1
  obtain ⟨n2, rfl⟩ := int_one t2
  obtain ⟨n3, rfl⟩ := int_one t3
  exact ⟨(n0, n1, n2, n3), rfl⟩
end
end Go.Proofs.Ytaogdgbijjjpjaa
