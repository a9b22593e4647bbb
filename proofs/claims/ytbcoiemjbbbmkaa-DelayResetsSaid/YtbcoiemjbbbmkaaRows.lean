/-
  No cell of these rows narrows 'for every input' (looked for: loops, veiled, ifaces, maps, wideKeys, modest, calm, conditions, laid).
  DERIVED. THE GIVEN ROWS OF THIS SEAT. 5 by the template 'for every input the law returns true; each argument reads behind the call as it read before'; 0 by the template 'total and deterministic' (their statements: YtbcoiemjbbbmkaaTotals.lean).
  GIVEN WITH THE SEED: the statements are not yours to turn. If you find one false, say at which input.
  Laid BY PROGRAM, IN A SANDBOX (cutbox-rows.mjs): the forced cells as the released guide's own fill.sh prints them over the translation 3bb7667b55b52e90… (all of the seat's roots in one cut). By AI agents, Wed Nov 11 2026. No macro, syntax, notation, axiom, sorry.
-/
import Derived.Test.YtbcoiemjbbbmkaaChecked
import GoSem.Claim
import GoSem.ClaimJoined
import GoSem.ClaimMapViews
import Derived.JoinedTies
import Derived.KernelRfl
namespace Go.Proofs.Ytbcoiemjbbbmkaa
/- THE CELL 'sum', in the pinned program and in every row, IS THE sha256 OF THE DUMP (.gsa) THAT YtbcoiemjbbbmkaaProg.lean LOADS. Nothing in Lean hashes anything: it is a label: what it is worth is what the hold of that sum in a sandbox is worth. -/
noncomputable def Try.pinned : Pinned := { name := "ytbcoiemjbbbmkaa", sum := "3bb7667b55b52e90194b9997896137f472ed20352f490bd2c2ffd6ee42c4c6a6", checked := Try.checked }
namespace Rows
def none {H : Type} : Left H := { results := [], args := [] }

/-- 'pendulumlaw10.DelayModel': WHATEVER THE INPUT: true; the input reads as it did. -/
def delayModelSpec : ChangeSpec := { name := "delayModel", fn := fun _ => fun
  | [d1, d2] => { results := [.lit (.bool true)], args := [d1, d2] }
  | _ => none }
def delayModelRow : OpenClaim := { program := "ytbcoiemjbbbmkaa", sum := "3bb7667b55b52e90194b9997896137f472ed20352f490bd2c2ffd6ee42c4c6a6", func := "pendulum/pendulumlaw10.DelayModel", spec := "delayModel", unfollowed := true, recurses := true, apart := false }
def DelayModelSaid : Prop := delayModelRow.holds Try.pinned (OpenSpec.ofChange delayModelSpec)

/-- ITS FALSE NEIGHBOUR: 'it returns false'. Refute it at one input. -/
def delayModelWrong : ChangeSpec := { name := "delayModel", fn := fun _ => fun
  | [d1, d2] => { results := [.lit (.bool false)], args := [d1, d2] }
  | _ => none }
def DelayModelWrongFalsely : Prop := delayModelRow.holds Try.pinned (OpenSpec.ofChange delayModelWrong)

/-- 'pendulumlaw10.DelayApart': WHATEVER THE INPUT: true; the input reads as it did. -/
def delayApartSpec : ChangeSpec := { name := "delayApart", fn := fun _ => fun
  | [d1, d2] => { results := [.lit (.bool true)], args := [d1, d2] }
  | _ => none }
def delayApartRow : OpenClaim := { program := "ytbcoiemjbbbmkaa", sum := "3bb7667b55b52e90194b9997896137f472ed20352f490bd2c2ffd6ee42c4c6a6", func := "pendulum/pendulumlaw10.DelayApart", spec := "delayApart", unfollowed := true, recurses := true, apart := false }
def DelayApartSaid : Prop := delayApartRow.holds Try.pinned (OpenSpec.ofChange delayApartSpec)

/-- ITS FALSE NEIGHBOUR: 'it returns false'. Refute it at one input. -/
def delayApartWrong : ChangeSpec := { name := "delayApart", fn := fun _ => fun
  | [d1, d2] => { results := [.lit (.bool false)], args := [d1, d2] }
  | _ => none }
def DelayApartWrongFalsely : Prop := delayApartRow.holds Try.pinned (OpenSpec.ofChange delayApartWrong)

/-- 'pendulumlaw10.DelayOwn': WHATEVER THE INPUT: true; the input reads as it did. -/
def delayOwnSpec : ChangeSpec := { name := "delayOwn", fn := fun _ => fun
  | [d1, d2, d3] => { results := [.lit (.bool true)], args := [d1, d2, d3] }
  | _ => none }
def delayOwnRow : OpenClaim := { program := "ytbcoiemjbbbmkaa", sum := "3bb7667b55b52e90194b9997896137f472ed20352f490bd2c2ffd6ee42c4c6a6", func := "pendulum/pendulumlaw10.DelayOwn", spec := "delayOwn", unfollowed := true, recurses := true, apart := false }
def DelayOwnSaid : Prop := delayOwnRow.holds Try.pinned (OpenSpec.ofChange delayOwnSpec)

/-- ITS FALSE NEIGHBOUR: 'it returns false'. Refute it at one input. -/
def delayOwnWrong : ChangeSpec := { name := "delayOwn", fn := fun _ => fun
  | [d1, d2, d3] => { results := [.lit (.bool false)], args := [d1, d2, d3] }
  | _ => none }
def DelayOwnWrongFalsely : Prop := delayOwnRow.holds Try.pinned (OpenSpec.ofChange delayOwnWrong)

/-- 'pendulumlaw10.DelayOpens': WHATEVER THE INPUT: true; the input reads as it did. -/
def delayOpensSpec : ChangeSpec := { name := "delayOpens", fn := fun _ => fun
  | [d1, d2, d3] => { results := [.lit (.bool true)], args := [d1, d2, d3] }
  | _ => none }
def delayOpensRow : OpenClaim := { program := "ytbcoiemjbbbmkaa", sum := "3bb7667b55b52e90194b9997896137f472ed20352f490bd2c2ffd6ee42c4c6a6", func := "pendulum/pendulumlaw10.DelayOpens", spec := "delayOpens", unfollowed := true, recurses := true, apart := false }
def DelayOpensSaid : Prop := delayOpensRow.holds Try.pinned (OpenSpec.ofChange delayOpensSpec)

/-- ITS FALSE NEIGHBOUR: 'it returns false'. Refute it at one input. -/
def delayOpensWrong : ChangeSpec := { name := "delayOpens", fn := fun _ => fun
  | [d1, d2, d3] => { results := [.lit (.bool false)], args := [d1, d2, d3] }
  | _ => none }
def DelayOpensWrongFalsely : Prop := delayOpensRow.holds Try.pinned (OpenSpec.ofChange delayOpensWrong)

/-- 'pendulumlaw10.DelayResets': WHATEVER THE INPUT: true; the input reads as it did. -/
def delayResetsSpec : ChangeSpec := { name := "delayResets", fn := fun _ => fun
  | [d1, d2] => { results := [.lit (.bool true)], args := [d1, d2] }
  | _ => none }
def delayResetsRow : OpenClaim := { program := "ytbcoiemjbbbmkaa", sum := "3bb7667b55b52e90194b9997896137f472ed20352f490bd2c2ffd6ee42c4c6a6", func := "pendulum/pendulumlaw10.DelayResets", spec := "delayResets", unfollowed := true, recurses := true, apart := false }
def DelayResetsSaid : Prop := delayResetsRow.holds Try.pinned (OpenSpec.ofChange delayResetsSpec)

/-- ITS FALSE NEIGHBOUR: 'it returns false'. Refute it at one input. -/
def delayResetsWrong : ChangeSpec := { name := "delayResets", fn := fun _ => fun
  | [d1, d2] => { results := [.lit (.bool false)], args := [d1, d2] }
  | _ => none }
def DelayResetsWrongFalsely : Prop := delayResetsRow.holds Try.pinned (OpenSpec.ofChange delayResetsWrong)

/- THE SECOND FORM. 'bulk': how many values and letters a reading holds, each counted each time it is reached (what is shared counts as often as it is met; a slice's spare places count too). A statement '..UptoSaid' is the law's where the arguments, and the package variables that the reading takes, are together of bulk at most 1048576: NARROWER than '..Said'. Prove '..Said' where nothing that the law and all that it calls make is longer than what came in: it says more and counts as full. Else prove '..UptoSaid'. A law counts once. -/
mutual
def uptoBulk {H : Type} : DataW H → Nat
  | .lit (.string bytes) => bytes.length + 1
  | .lit _ => 1
  | .nil => 1
  | .ptr d => uptoBulk d + 1
  | .slice elems spare => uptoBulkAll elems + uptoBulkAll spare + 1
  | .agg parts => uptoBulkAll parts + 1
  | .iface _ d => uptoBulk d + 1
  | .map entries => uptoBulkEntries entries + 1
  | .held _ => 1
def uptoBulkAll {H : Type} : List (DataW H) → Nat
  | [] => 0
  | d :: r => uptoBulk d + uptoBulkAll r
def uptoBulkEntries {H : Type} : List (Lit × DataW H) → Nat
  | [] => 0
  | x :: r => uptoBulkEntry x + uptoBulkEntries r
def uptoBulkEntry {H : Type} : Lit × DataW H → Nat
  | (.string bytes, d) => bytes.length + uptoBulk d + 1
  | (_, d) => uptoBulk d + 1
 end
def uptoSmall : (H : Type) → List (DataW H) → Bool := fun _ ds => decide (uptoBulkAll ds ≤ 1048576)
def OpenSpec.upto (s : _root_.Go.ChangeSpec) : _root_.Go.OpenSpec := { _root_.Go.OpenSpec.ofChange s with cond := some uptoSmall }

/-- 'pendulumlaw10.DelayModel', WHERE WHAT IT READS IS OF BULK AT MOST 1048576: true; the input reads as it did. -/
def delayModelUptoRow : OpenClaim := { program := "ytbcoiemjbbbmkaa", sum := "3bb7667b55b52e90194b9997896137f472ed20352f490bd2c2ffd6ee42c4c6a6", func := "pendulum/pendulumlaw10.DelayModel", spec := "delayModel", unfollowed := true, recurses := true, apart := false, narrowed := true }
def DelayModelUptoSaid : Prop := delayModelUptoRow.holds Try.pinned (OpenSpec.upto delayModelSpec)

/-- 'pendulumlaw10.DelayApart', WHERE WHAT IT READS IS OF BULK AT MOST 1048576: true; the input reads as it did. -/
def delayApartUptoRow : OpenClaim := { program := "ytbcoiemjbbbmkaa", sum := "3bb7667b55b52e90194b9997896137f472ed20352f490bd2c2ffd6ee42c4c6a6", func := "pendulum/pendulumlaw10.DelayApart", spec := "delayApart", unfollowed := true, recurses := true, apart := false, narrowed := true }
def DelayApartUptoSaid : Prop := delayApartUptoRow.holds Try.pinned (OpenSpec.upto delayApartSpec)

/-- 'pendulumlaw10.DelayOwn', WHERE WHAT IT READS IS OF BULK AT MOST 1048576: true; the input reads as it did. -/
def delayOwnUptoRow : OpenClaim := { program := "ytbcoiemjbbbmkaa", sum := "3bb7667b55b52e90194b9997896137f472ed20352f490bd2c2ffd6ee42c4c6a6", func := "pendulum/pendulumlaw10.DelayOwn", spec := "delayOwn", unfollowed := true, recurses := true, apart := false, narrowed := true }
def DelayOwnUptoSaid : Prop := delayOwnUptoRow.holds Try.pinned (OpenSpec.upto delayOwnSpec)

/-- 'pendulumlaw10.DelayOpens', WHERE WHAT IT READS IS OF BULK AT MOST 1048576: true; the input reads as it did. -/
def delayOpensUptoRow : OpenClaim := { program := "ytbcoiemjbbbmkaa", sum := "3bb7667b55b52e90194b9997896137f472ed20352f490bd2c2ffd6ee42c4c6a6", func := "pendulum/pendulumlaw10.DelayOpens", spec := "delayOpens", unfollowed := true, recurses := true, apart := false, narrowed := true }
def DelayOpensUptoSaid : Prop := delayOpensUptoRow.holds Try.pinned (OpenSpec.upto delayOpensSpec)

/-- 'pendulumlaw10.DelayResets', WHERE WHAT IT READS IS OF BULK AT MOST 1048576: true; the input reads as it did. -/
def delayResetsUptoRow : OpenClaim := { program := "ytbcoiemjbbbmkaa", sum := "3bb7667b55b52e90194b9997896137f472ed20352f490bd2c2ffd6ee42c4c6a6", func := "pendulum/pendulumlaw10.DelayResets", spec := "delayResets", unfollowed := true, recurses := true, apart := false, narrowed := true }
def DelayResetsUptoSaid : Prop := delayResetsUptoRow.holds Try.pinned (OpenSpec.upto delayResetsSpec)

end Rows
end Go.Proofs.Ytbcoiemjbbbmkaa
