/- THE FRAME for []Act, a struct in a struct. -/
import Derived.Test.YtaogdgbijjjpjaaLift
import Derived.Test.YtaogdgbijjjpjaaHModM
namespace Go.Proofs.Ytaogdgbijjjpjaa
open Go.ChangeShapes Go.WideShapes Go.ChangeAt Go.RowKit Go.Deep
set_option linter.unusedVariables false

theorem cells43 : Try.prog.cellsOf 43 = 5 := by kernel_rfl
theorem cells23 : Try.prog.cellsOf 23 = 4 := by kernel_rfl
theorem cells3 : Try.prog.cellsOf 3 = 1 := by kernel_rfl

section
variable {H : Type} {enc : TypeId × Value → H} {w : World} {spare : Nat → Bool} {held : Bool} {base : Nat}
set_option maxRecDepth 100000 in
theorem act_of {fuel : Nat} {cs : List Value} {x : DataW H × List MemPlace} (h : DataW.trod enc Try.prog w base spare held fuel 43 cs = some x) :
    ∃ a b c d e : Int, cs = [.int .i64 a, .int .i64 b, .int .i64 c, .int .i64 d, .int .i64 e] := by
  obtain ⟨xs, n, _, _, hl, hxl, hf⟩ := DataW.trod_struct Try.underlying43 h
  rw [cells43] at hl
  have hxl' : xs.length = 2 := hxl
  match cs, hl with
  | [u0, u1, u2, u3, u4], _ =>
    have h0 : DataW.trod enc Try.prog w base spare held n 3 (([u0, u1, u2, u3, u4].drop 0).take (Try.prog.cellsOf 3)) = xs[0]? := hf 0 _ rfl
    have h1 : DataW.trod enc Try.prog w base spare held n 23 (([u0, u1, u2, u3, u4].drop 1).take (Try.prog.cellsOf 23)) = xs[1]? := hf 1 _ rfl
    rw [cells3] at h0
    rw [cells23] at h1
    have e0 : xs[0]? = some (xs[0]'(by omega)) := List.getElem?_eq_getElem (by omega)
    have e1 : xs[1]? = some (xs[1]'(by omega)) := List.getElem?_eq_getElem (by omega)
    obtain ⟨a, rfl⟩ := int_one (u := u0) (h0.trans e0)
    obtain ⟨ys, n', _, _, _, hyl, hg⟩ := DataW.trod_struct Try.underlying23 (h1.trans e1)
    have hyl' : ys.length = 4 := hyl
    have g0 : DataW.trod enc Try.prog w base spare held n' 3 (([u1, u2, u3, u4].drop 0).take (Try.prog.cellsOf 3)) = ys[0]? := hg 0 _ rfl
    have g1 : DataW.trod enc Try.prog w base spare held n' 3 (([u1, u2, u3, u4].drop 1).take (Try.prog.cellsOf 3)) = ys[1]? := hg 1 _ rfl
    have g2 : DataW.trod enc Try.prog w base spare held n' 3 (([u1, u2, u3, u4].drop 2).take (Try.prog.cellsOf 3)) = ys[2]? := hg 2 _ rfl
    have g3 : DataW.trod enc Try.prog w base spare held n' 3 (([u1, u2, u3, u4].drop 3).take (Try.prog.cellsOf 3)) = ys[3]? := hg 3 _ rfl
    rw [cells3] at g0 g1 g2 g3
    have k0 : ys[0]? = some (ys[0]'(by omega)) := List.getElem?_eq_getElem (by omega)
    have k1 : ys[1]? = some (ys[1]'(by omega)) := List.getElem?_eq_getElem (by omega)
    have k2 : ys[2]? = some (ys[2]'(by omega)) := List.getElem?_eq_getElem (by omega)
    have k3 : ys[3]? = some (ys[3]'(by omega)) := List.getElem?_eq_getElem (by omega)
    obtain ⟨b, rfl⟩ := int_one (u := u1) (g0.trans k0)
    obtain ⟨c, rfl⟩ := int_one (u := u2) (g1.trans k1)
    obtain ⟨d, rfl⟩ := int_one (u := u3) (g2.trans k2)
    obtain ⟨e, rfl⟩ := int_one (u := u4) (g3.trans k3)
    exact ⟨a, b, c, d, e, rfl⟩

theorem acts_of {fuel : Nat} {v : Value} {x : DataW H × List MemPlace}
    (h : DataW.trod enc Try.prog w base spare held fuel 40 [v] = some x) :
    ∃ a n c xs, v = .slice a n c ∧ AsIn w.heap.size w a n xs ∧ n ≤ 9223372036854775807 ∧ ∀ z ∈ xs, True := by
  rcases open_slice Try.underlying40 h with ⟨hcs, _⟩ | ⟨a, l, c, m, nn, D, Pl, hcs, _, hl, hm, hmm, _, hat⟩
  · simp at hcs; subst hcs
    exact ⟨none, 0, 0, [], rfl, ⟨rfl, fun h => by omega⟩, by omega, by simp⟩
  · simp at hcs; subst hcs
    have hlm : l ≤ m := by rw [hmm]; split <;> omega
    have hx : ∀ i, ∃ y : Int × Q, i < l → w.cell? (a.add (i * 5)) = some (.int .i64 y.1) ∧ w.cell? ((a.add (i * 5)).add 1) = some (.int .i64 y.2.1) ∧ w.cell? ((a.add (i * 5)).add 2) = some (.int .i64 y.2.2.1) ∧ w.cell? ((a.add (i * 5)).add 3) = some (.int .i64 y.2.2.2.1) ∧ w.cell? ((a.add (i * 5)).add 4) = some (.int .i64 y.2.2.2.2) := by
      intro i
      by_cases hi : i < l
      · obtain ⟨cs', hc, ht⟩ := hat i (by omega)
        rw [cells43] at hc
        obtain ⟨p, q, r, s, t, rfl⟩ := act_of ht
        obtain ⟨_, hcl, hcell⟩ := World.cells?_some hc
        have c0 := hcell 0 (by omega)
        have e : (a.add (i * 5)).add 0 = a.add (i * 5) := by unfold Addr.add; simp
        rw [e] at c0
        exact ⟨(p, q, r, s, t), fun _ => ⟨c0, hcell 1 (by omega), hcell 2 (by omega), hcell 3 (by omega), hcell 4 (by omega)⟩⟩
      · exact ⟨(0, 0, 0, 0, 0), fun h => absurd h hi⟩
    obtain ⟨f, hf⟩ := Classical.skolem.1 hx
    refine ⟨some a, l, c, (List.range l).map f, rfl, ⟨by simp, fun h0 => ?_⟩, by unfold maxLen at hm; omega, fun _ _ => trivial⟩
    obtain ⟨b, off, spot⟩ := a
    have hc0 := (hf 0 h0).1
    have hsp := World.cell?_spot hc0
    simp only [Addr.add, Nat.zero_mul, if_true] at hsp
    have : spot = none := hsp
    subst this
    refine ⟨b, off, rfl, block_lt hc0, fun j hj => ?_⟩
    have hj' : j < l := by simpa using hj
    have h1 := hf j hj'
    rw [add_none, add_none, add_none, add_none, add_none] at h1
    simp only [List.getElem_map, List.getElem_range]
    exact ⟨h1.1, h1.2.1, h1.2.2.1, h1.2.2.2.1, h1.2.2.2.2⟩
end
end Go.Proofs.Ytaogdgbijjjpjaa
