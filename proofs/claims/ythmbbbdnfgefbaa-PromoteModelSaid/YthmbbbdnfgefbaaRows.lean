/-
  No cell of these rows narrows 'for every input' (looked for: loops, veiled, ifaces, maps, wideKeys, modest, calm, conditions, laid).
  DERIVED. THE GIVEN ROWS OF THIS SEAT. 9 by the template 'for every input the law returns true; each argument reads behind the call as it read before'; 0 by the template 'total and deterministic' (their statements: YthmbbbdnfgefbaaTotals.lean).
  GIVEN WITH THE SEED: the statements are not yours to turn. If you find one false, say at which input.
  Laid BY PROGRAM, IN A SANDBOX (cutbox-rows.mjs): the forced cells as the released guide's own fill.sh prints them over the translation 372fce6b37f8ac07… (all of the seat's roots in one cut). By AI agents, Wed Nov 11 2026. No macro, syntax, notation, axiom, sorry.
-/
import Derived.Test.YthmbbbdnfgefbaaChecked
import GoSem.Claim
import GoSem.ClaimJoined
import GoSem.ClaimMapViews
import Derived.JoinedTies
import Derived.KernelRfl
namespace Go.Proofs.Ythmbbbdnfgefbaa
/- THE CELL 'sum', in the pinned program and in every row, IS THE sha256 OF THE DUMP (.gsa) THAT YthmbbbdnfgefbaaProg.lean LOADS. Nothing in Lean hashes anything: it is a label: what it is worth is what the hold of that sum in a sandbox is worth. -/
noncomputable def Try.pinned : Pinned := { name := "ythmbbbdnfgefbaa", sum := "372fce6b37f8ac079c5044de4df6bfb809e4452d7bad2f47702f6b40275a5217", checked := Try.checked }
namespace Rows
def none {H : Type} : Left H := { results := [], args := [] }

/-- 'pendulumlaw09.WheelModel': WHATEVER THE INPUT: true; the input reads as it did. -/
def wheelModelSpec : ChangeSpec := { name := "wheelModel", fn := fun _ => fun
  | [d1, d2] => { results := [.lit (.bool true)], args := [d1, d2] }
  | _ => none }
def wheelModelRow : OpenClaim := { program := "ythmbbbdnfgefbaa", sum := "372fce6b37f8ac079c5044de4df6bfb809e4452d7bad2f47702f6b40275a5217", func := "pendulum/pendulumlaw09.WheelModel", spec := "wheelModel", unfollowed := true, recurses := true, apart := false }
def WheelModelSaid : Prop := wheelModelRow.holds Try.pinned (OpenSpec.ofChange wheelModelSpec)

/-- ITS FALSE NEIGHBOUR: 'it returns false'. Refute it at one input. -/
def wheelModelWrong : ChangeSpec := { name := "wheelModel", fn := fun _ => fun
  | [d1, d2] => { results := [.lit (.bool false)], args := [d1, d2] }
  | _ => none }
def WheelModelWrongFalsely : Prop := wheelModelRow.holds Try.pinned (OpenSpec.ofChange wheelModelWrong)

/-- 'pendulumlaw09.WheelSteps': WHATEVER THE INPUT: true; the input reads as it did. -/
def wheelStepsSpec : ChangeSpec := { name := "wheelSteps", fn := fun _ => fun
  | [d1, d2] => { results := [.lit (.bool true)], args := [d1, d2] }
  | _ => none }
def wheelStepsRow : OpenClaim := { program := "ythmbbbdnfgefbaa", sum := "372fce6b37f8ac079c5044de4df6bfb809e4452d7bad2f47702f6b40275a5217", func := "pendulum/pendulumlaw09.WheelSteps", spec := "wheelSteps", unfollowed := true, recurses := true, apart := false }
def WheelStepsSaid : Prop := wheelStepsRow.holds Try.pinned (OpenSpec.ofChange wheelStepsSpec)

/-- ITS FALSE NEIGHBOUR: 'it returns false'. Refute it at one input. -/
def wheelStepsWrong : ChangeSpec := { name := "wheelSteps", fn := fun _ => fun
  | [d1, d2] => { results := [.lit (.bool false)], args := [d1, d2] }
  | _ => none }
def WheelStepsWrongFalsely : Prop := wheelStepsRow.holds Try.pinned (OpenSpec.ofChange wheelStepsWrong)

/-- 'pendulumlaw09.WheelKeeps': WHATEVER THE INPUT: true; the input reads as it did. -/
def wheelKeepsSpec : ChangeSpec := { name := "wheelKeeps", fn := fun _ => fun
  | [d] => { results := [.lit (.bool true)], args := [d] }
  | _ => none }
def wheelKeepsRow : OpenClaim := { program := "ythmbbbdnfgefbaa", sum := "372fce6b37f8ac079c5044de4df6bfb809e4452d7bad2f47702f6b40275a5217", func := "pendulum/pendulumlaw09.WheelKeeps", spec := "wheelKeeps", unfollowed := true, recurses := true, apart := false }
def WheelKeepsSaid : Prop := wheelKeepsRow.holds Try.pinned (OpenSpec.ofChange wheelKeepsSpec)

/-- ITS FALSE NEIGHBOUR: 'it returns false'. Refute it at one input. -/
def wheelKeepsWrong : ChangeSpec := { name := "wheelKeeps", fn := fun _ => fun
  | [d] => { results := [.lit (.bool false)], args := [d] }
  | _ => none }
def WheelKeepsWrongFalsely : Prop := wheelKeepsRow.holds Try.pinned (OpenSpec.ofChange wheelKeepsWrong)

/-- 'pendulumlaw09.WheelCancels': WHATEVER THE INPUT: true; the input reads as it did. -/
def wheelCancelsSpec : ChangeSpec := { name := "wheelCancels", fn := fun _ => fun
  | [d1, d2, d3] => { results := [.lit (.bool true)], args := [d1, d2, d3] }
  | _ => none }
def wheelCancelsRow : OpenClaim := { program := "ythmbbbdnfgefbaa", sum := "372fce6b37f8ac079c5044de4df6bfb809e4452d7bad2f47702f6b40275a5217", func := "pendulum/pendulumlaw09.WheelCancels", spec := "wheelCancels", unfollowed := true, recurses := true, apart := false }
def WheelCancelsSaid : Prop := wheelCancelsRow.holds Try.pinned (OpenSpec.ofChange wheelCancelsSpec)

/-- ITS FALSE NEIGHBOUR: 'it returns false'. Refute it at one input. -/
def wheelCancelsWrong : ChangeSpec := { name := "wheelCancels", fn := fun _ => fun
  | [d1, d2, d3] => { results := [.lit (.bool false)], args := [d1, d2, d3] }
  | _ => none }
def WheelCancelsWrongFalsely : Prop := wheelCancelsRow.holds Try.pinned (OpenSpec.ofChange wheelCancelsWrong)

/-- 'pendulumlaw09.WheelFull': WHATEVER THE INPUT: true; the input reads as it did. -/
def wheelFullSpec : ChangeSpec := { name := "wheelFull", fn := fun _ => fun
  | [d1, d2] => { results := [.lit (.bool true)], args := [d1, d2] }
  | _ => none }
def wheelFullRow : OpenClaim := { program := "ythmbbbdnfgefbaa", sum := "372fce6b37f8ac079c5044de4df6bfb809e4452d7bad2f47702f6b40275a5217", func := "pendulum/pendulumlaw09.WheelFull", spec := "wheelFull", unfollowed := true, recurses := true, apart := false }
def WheelFullSaid : Prop := wheelFullRow.holds Try.pinned (OpenSpec.ofChange wheelFullSpec)

/-- ITS FALSE NEIGHBOUR: 'it returns false'. Refute it at one input. -/
def wheelFullWrong : ChangeSpec := { name := "wheelFull", fn := fun _ => fun
  | [d1, d2] => { results := [.lit (.bool false)], args := [d1, d2] }
  | _ => none }
def WheelFullWrongFalsely : Prop := wheelFullRow.holds Try.pinned (OpenSpec.ofChange wheelFullWrong)

/-- 'pendulumlaw17.PromoteModel': WHATEVER THE INPUT: true; the input reads as it did. -/
def promoteModelSpec : ChangeSpec := { name := "promoteModel", fn := fun _ => fun
  | [d1, d2] => { results := [.lit (.bool true)], args := [d1, d2] }
  | _ => none }
def promoteModelRow : OpenClaim := { program := "ythmbbbdnfgefbaa", sum := "372fce6b37f8ac079c5044de4df6bfb809e4452d7bad2f47702f6b40275a5217", func := "pendulum/pendulumlaw17.PromoteModel", spec := "promoteModel", unfollowed := true, recurses := true, apart := false }
def PromoteModelSaid : Prop := promoteModelRow.holds Try.pinned (OpenSpec.ofChange promoteModelSpec)

/-- ITS FALSE NEIGHBOUR: 'it returns false'. Refute it at one input. -/
def promoteModelWrong : ChangeSpec := { name := "promoteModel", fn := fun _ => fun
  | [d1, d2] => { results := [.lit (.bool false)], args := [d1, d2] }
  | _ => none }
def PromoteModelWrongFalsely : Prop := promoteModelRow.holds Try.pinned (OpenSpec.ofChange promoteModelWrong)

/-- 'pendulumlaw17.PromoteInTime': WHATEVER THE INPUT: true; the input reads as it did. -/
def promoteInTimeSpec : ChangeSpec := { name := "promoteInTime", fn := fun _ => fun
  | [d1, d2, d3] => { results := [.lit (.bool true)], args := [d1, d2, d3] }
  | _ => none }
def promoteInTimeRow : OpenClaim := { program := "ythmbbbdnfgefbaa", sum := "372fce6b37f8ac079c5044de4df6bfb809e4452d7bad2f47702f6b40275a5217", func := "pendulum/pendulumlaw17.PromoteInTime", spec := "promoteInTime", unfollowed := true, recurses := true, apart := false }
def PromoteInTimeSaid : Prop := promoteInTimeRow.holds Try.pinned (OpenSpec.ofChange promoteInTimeSpec)

/-- ITS FALSE NEIGHBOUR: 'it returns false'. Refute it at one input. -/
def promoteInTimeWrong : ChangeSpec := { name := "promoteInTime", fn := fun _ => fun
  | [d1, d2, d3] => { results := [.lit (.bool false)], args := [d1, d2, d3] }
  | _ => none }
def PromoteInTimeWrongFalsely : Prop := promoteInTimeRow.holds Try.pinned (OpenSpec.ofChange promoteInTimeWrong)

/-- 'pendulumlaw17.PromoteKeeps': WHATEVER THE INPUT: true; the input reads as it did. -/
def promoteKeepsSpec : ChangeSpec := { name := "promoteKeeps", fn := fun _ => fun
  | [d] => { results := [.lit (.bool true)], args := [d] }
  | _ => none }
def promoteKeepsRow : OpenClaim := { program := "ythmbbbdnfgefbaa", sum := "372fce6b37f8ac079c5044de4df6bfb809e4452d7bad2f47702f6b40275a5217", func := "pendulum/pendulumlaw17.PromoteKeeps", spec := "promoteKeeps", unfollowed := true, recurses := true, apart := false }
def PromoteKeepsSaid : Prop := promoteKeepsRow.holds Try.pinned (OpenSpec.ofChange promoteKeepsSpec)

/-- ITS FALSE NEIGHBOUR: 'it returns false'. Refute it at one input. -/
def promoteKeepsWrong : ChangeSpec := { name := "promoteKeeps", fn := fun _ => fun
  | [d] => { results := [.lit (.bool false)], args := [d] }
  | _ => none }
def PromoteKeepsWrongFalsely : Prop := promoteKeepsRow.holds Try.pinned (OpenSpec.ofChange promoteKeepsWrong)

/-- 'pendulumlaw17.PromoteDrops': WHATEVER THE INPUT: true; the input reads as it did. -/
def promoteDropsSpec : ChangeSpec := { name := "promoteDrops", fn := fun _ => fun
  | [d1, d2, d3] => { results := [.lit (.bool true)], args := [d1, d2, d3] }
  | _ => none }
def promoteDropsRow : OpenClaim := { program := "ythmbbbdnfgefbaa", sum := "372fce6b37f8ac079c5044de4df6bfb809e4452d7bad2f47702f6b40275a5217", func := "pendulum/pendulumlaw17.PromoteDrops", spec := "promoteDrops", unfollowed := true, recurses := true, apart := false }
def PromoteDropsSaid : Prop := promoteDropsRow.holds Try.pinned (OpenSpec.ofChange promoteDropsSpec)

/-- ITS FALSE NEIGHBOUR: 'it returns false'. Refute it at one input. -/
def promoteDropsWrong : ChangeSpec := { name := "promoteDrops", fn := fun _ => fun
  | [d1, d2, d3] => { results := [.lit (.bool false)], args := [d1, d2, d3] }
  | _ => none }
def PromoteDropsWrongFalsely : Prop := promoteDropsRow.holds Try.pinned (OpenSpec.ofChange promoteDropsWrong)

/- THE SECOND FORM. 'bulk': how many values and letters a reading holds, each counted each time it is reached (what is shared counts as often as it is met; a slice's spare places count too). A statement '..UptoSaid' is the law's where the arguments, and the package variables that the reading takes, are together of bulk at most 1048576: NARROWER than '..Said'. Prove '..Said' where nothing that the law and all that it calls make is longer than what came in: it says more and counts as full. Else prove '..UptoSaid'. A law counts once. -/
mutual
def uptoBulk {H : Type} : DataW H → Nat
  | .lit (.string bytes) => bytes.length + 1
  | .lit _ => 1
  | .nil => 1
  | .ptr d => uptoBulk d + 1
  | .slice elems spare => uptoBulkAll elems + uptoBulkAll spare + 1
  | .agg parts => uptoBulkAll parts + 1
  | .iface _ d => uptoBulk d + 1
  | .map entries => uptoBulkEntries entries + 1
  | .held _ => 1
def uptoBulkAll {H : Type} : List (DataW H) → Nat
  | [] => 0
  | d :: r => uptoBulk d + uptoBulkAll r
def uptoBulkEntries {H : Type} : List (Lit × DataW H) → Nat
  | [] => 0
  | x :: r => uptoBulkEntry x + uptoBulkEntries r
def uptoBulkEntry {H : Type} : Lit × DataW H → Nat
  | (.string bytes, d) => bytes.length + uptoBulk d + 1
  | (_, d) => uptoBulk d + 1
 end
def uptoSmall : (H : Type) → List (DataW H) → Bool := fun _ ds => decide (uptoBulkAll ds ≤ 1048576)
def OpenSpec.upto (s : _root_.Go.ChangeSpec) : _root_.Go.OpenSpec := { _root_.Go.OpenSpec.ofChange s with cond := some uptoSmall }

/-- 'pendulumlaw09.WheelModel', WHERE WHAT IT READS IS OF BULK AT MOST 1048576: true; the input reads as it did. -/
def wheelModelUptoRow : OpenClaim := { program := "ythmbbbdnfgefbaa", sum := "372fce6b37f8ac079c5044de4df6bfb809e4452d7bad2f47702f6b40275a5217", func := "pendulum/pendulumlaw09.WheelModel", spec := "wheelModel", unfollowed := true, recurses := true, apart := false, narrowed := true }
def WheelModelUptoSaid : Prop := wheelModelUptoRow.holds Try.pinned (OpenSpec.upto wheelModelSpec)

/-- 'pendulumlaw09.WheelSteps', WHERE WHAT IT READS IS OF BULK AT MOST 1048576: true; the input reads as it did. -/
def wheelStepsUptoRow : OpenClaim := { program := "ythmbbbdnfgefbaa", sum := "372fce6b37f8ac079c5044de4df6bfb809e4452d7bad2f47702f6b40275a5217", func := "pendulum/pendulumlaw09.WheelSteps", spec := "wheelSteps", unfollowed := true, recurses := true, apart := false, narrowed := true }
def WheelStepsUptoSaid : Prop := wheelStepsUptoRow.holds Try.pinned (OpenSpec.upto wheelStepsSpec)

/-- 'pendulumlaw09.WheelKeeps', WHERE WHAT IT READS IS OF BULK AT MOST 1048576: true; the input reads as it did. -/
def wheelKeepsUptoRow : OpenClaim := { program := "ythmbbbdnfgefbaa", sum := "372fce6b37f8ac079c5044de4df6bfb809e4452d7bad2f47702f6b40275a5217", func := "pendulum/pendulumlaw09.WheelKeeps", spec := "wheelKeeps", unfollowed := true, recurses := true, apart := false, narrowed := true }
def WheelKeepsUptoSaid : Prop := wheelKeepsUptoRow.holds Try.pinned (OpenSpec.upto wheelKeepsSpec)

/-- 'pendulumlaw09.WheelCancels', WHERE WHAT IT READS IS OF BULK AT MOST 1048576: true; the input reads as it did. -/
def wheelCancelsUptoRow : OpenClaim := { program := "ythmbbbdnfgefbaa", sum := "372fce6b37f8ac079c5044de4df6bfb809e4452d7bad2f47702f6b40275a5217", func := "pendulum/pendulumlaw09.WheelCancels", spec := "wheelCancels", unfollowed := true, recurses := true, apart := false, narrowed := true }
def WheelCancelsUptoSaid : Prop := wheelCancelsUptoRow.holds Try.pinned (OpenSpec.upto wheelCancelsSpec)

/-- 'pendulumlaw09.WheelFull', WHERE WHAT IT READS IS OF BULK AT MOST 1048576: true; the input reads as it did. -/
def wheelFullUptoRow : OpenClaim := { program := "ythmbbbdnfgefbaa", sum := "372fce6b37f8ac079c5044de4df6bfb809e4452d7bad2f47702f6b40275a5217", func := "pendulum/pendulumlaw09.WheelFull", spec := "wheelFull", unfollowed := true, recurses := true, apart := false, narrowed := true }
def WheelFullUptoSaid : Prop := wheelFullUptoRow.holds Try.pinned (OpenSpec.upto wheelFullSpec)

/-- 'pendulumlaw17.PromoteModel', WHERE WHAT IT READS IS OF BULK AT MOST 1048576: true; the input reads as it did. -/
def promoteModelUptoRow : OpenClaim := { program := "ythmbbbdnfgefbaa", sum := "372fce6b37f8ac079c5044de4df6bfb809e4452d7bad2f47702f6b40275a5217", func := "pendulum/pendulumlaw17.PromoteModel", spec := "promoteModel", unfollowed := true, recurses := true, apart := false, narrowed := true }
def PromoteModelUptoSaid : Prop := promoteModelUptoRow.holds Try.pinned (OpenSpec.upto promoteModelSpec)

/-- 'pendulumlaw17.PromoteInTime', WHERE WHAT IT READS IS OF BULK AT MOST 1048576: true; the input reads as it did. -/
def promoteInTimeUptoRow : OpenClaim := { program := "ythmbbbdnfgefbaa", sum := "372fce6b37f8ac079c5044de4df6bfb809e4452d7bad2f47702f6b40275a5217", func := "pendulum/pendulumlaw17.PromoteInTime", spec := "promoteInTime", unfollowed := true, recurses := true, apart := false, narrowed := true }
def PromoteInTimeUptoSaid : Prop := promoteInTimeUptoRow.holds Try.pinned (OpenSpec.upto promoteInTimeSpec)

/-- 'pendulumlaw17.PromoteKeeps', WHERE WHAT IT READS IS OF BULK AT MOST 1048576: true; the input reads as it did. -/
def promoteKeepsUptoRow : OpenClaim := { program := "ythmbbbdnfgefbaa", sum := "372fce6b37f8ac079c5044de4df6bfb809e4452d7bad2f47702f6b40275a5217", func := "pendulum/pendulumlaw17.PromoteKeeps", spec := "promoteKeeps", unfollowed := true, recurses := true, apart := false, narrowed := true }
def PromoteKeepsUptoSaid : Prop := promoteKeepsUptoRow.holds Try.pinned (OpenSpec.upto promoteKeepsSpec)

/-- 'pendulumlaw17.PromoteDrops', WHERE WHAT IT READS IS OF BULK AT MOST 1048576: true; the input reads as it did. -/
def promoteDropsUptoRow : OpenClaim := { program := "ythmbbbdnfgefbaa", sum := "372fce6b37f8ac079c5044de4df6bfb809e4452d7bad2f47702f6b40275a5217", func := "pendulum/pendulumlaw17.PromoteDrops", spec := "promoteDrops", unfollowed := true, recurses := true, apart := false, narrowed := true }
def PromoteDropsUptoSaid : Prop := promoteDropsUptoRow.holds Try.pinned (OpenSpec.upto promoteDropsSpec)

end Rows
end Go.Proofs.Ythmbbbdnfgefbaa
