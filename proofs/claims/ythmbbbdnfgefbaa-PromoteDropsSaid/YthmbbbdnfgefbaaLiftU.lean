/- THE FRAME for []uint8. -/
import Derived.Test.YthmbbbdnfgefbaaLift
import Derived.Test.YthmbbbdnfgefbaaPKeepsW
namespace Go.Proofs.Ythmbbbdnfgefbaa
open Go.ChangeShapes Go.WideShapes Go.ChangeAt Go.RowKit Go.Deep
set_option linter.unusedVariables false

/-- What the walk is told of an argument '[]uint8'. -/
theorem u8s_of {H : Type} {enc : TypeId × Value → H} {w : World} {spare : Nat → Bool} {held : Bool} {base fuel : Nat} {v : Value} {x : DataW H × List MemPlace}
    (h : DataW.trod enc Try.prog w base spare held fuel 67 [v] = some x) :
    ∃ a n c xs, v = .slice a n c ∧ U8In w.heap.size w a n xs ∧ n ≤ 9223372036854775807 ∧ ∀ z ∈ xs, (Lit.int .u8 z).wf = true := by
  rcases open_ints Try.underlying67 Try.underlying5 (by kernel_rfl) h with ⟨hcs, _⟩ | ⟨a, l, c, zs, hcs, _, hl, hm, hz, _, hcell, hwz⟩
  · simp at hcs; subst hcs
    exact ⟨none, 0, 0, [], rfl, ⟨rfl, fun h => by omega⟩, by omega, by simp⟩
  · simp at hcs; subst hcs
    have hzl : l ≤ zs.length := by rw [hz]; split <;> omega
    refine ⟨some a, l, c, zs.take l, rfl, ⟨by simp; omega, fun h0 => ?_⟩, by unfold maxLen at hm; omega, fun z hz' => hwz z (List.mem_of_mem_take hz')⟩
    obtain ⟨b, off, spot⟩ := a
    have hc0 := hcell 0 (by omega)
    have hsp := World.cell?_spot hc0
    simp only [Addr.add, if_true] at hsp
    have : spot = none := hsp
    subst this
    refine ⟨b, off, rfl, block_lt hc0, fun j hj => ?_⟩
    have := hcell j (by simp at hj; omega)
    rw [add_none] at this
    rw [this]
    simp at hj
    simp [List.getD_eq_getElem?_getD, show j < zs.length from by omega]
end Go.Proofs.Ythmbbbdnfgefbaa
