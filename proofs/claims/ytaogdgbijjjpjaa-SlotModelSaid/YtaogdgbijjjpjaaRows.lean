/-
  No cell of these rows narrows 'for every input' (looked for: loops, veiled, ifaces, maps, wideKeys, modest, calm, conditions, laid).
  DERIVED. THE GIVEN ROWS OF THIS SEAT. 11 by the template 'for every input the law returns true; each argument reads behind the call as it read before'; 0 by the template 'total and deterministic' (their statements: YtaogdgbijjjpjaaTotals.lean).
  GIVEN WITH THE SEED: the statements are not yours to turn. If you find one false, say at which input.
  Laid BY PROGRAM, IN A SANDBOX (cutbox-rows.mjs): the forced cells as the released guide's own fill.sh prints them over the translation e76dea90714d1564… (all of the seat's roots in one cut). By AI agents, Wed Nov 11 2026. No macro, syntax, notation, axiom, sorry.
-/
import Derived.Test.YtaogdgbijjjpjaaChecked
import GoSem.Claim
import GoSem.ClaimJoined
import GoSem.ClaimMapViews
import Derived.JoinedTies
import Derived.KernelRfl
namespace Go.Proofs.Ytaogdgbijjjpjaa
/- THE CELL 'sum', in the pinned program and in every row, IS THE sha256 OF THE DUMP (.gsa) THAT YtaogdgbijjjpjaaProg.lean LOADS. Nothing in Lean hashes anything: it is a label: what it is worth is what the hold of that sum in a sandbox is worth. -/
noncomputable def Try.pinned : Pinned := { name := "ytaogdgbijjjpjaa", sum := "e76dea90714d15646c2d485a6fa7cadaf7d160c00b8686078b6bf394fdb72c77", checked := Try.checked }
namespace Rows
def none {H : Type} : Left H := { results := [], args := [] }

/-- 'pendulumlaw08.HeapCompares': WHATEVER THE INPUT: true; the input reads as it did. -/
def heapComparesSpec : ChangeSpec := { name := "heapCompares", fn := fun _ => fun
  | [d1, d2, d3] => { results := [.lit (.bool true)], args := [d1, d2, d3] }
  | _ => none }
def heapComparesRow : OpenClaim := { program := "ytaogdgbijjjpjaa", sum := "e76dea90714d15646c2d485a6fa7cadaf7d160c00b8686078b6bf394fdb72c77", func := "pendulum/pendulumlaw08.HeapCompares", spec := "heapCompares", unfollowed := true, recurses := true, apart := false }
def HeapComparesSaid : Prop := heapComparesRow.holds Try.pinned (OpenSpec.ofChange heapComparesSpec)

/-- ITS FALSE NEIGHBOUR: 'it returns false'. Refute it at one input. -/
def heapComparesWrong : ChangeSpec := { name := "heapCompares", fn := fun _ => fun
  | [d1, d2, d3] => { results := [.lit (.bool false)], args := [d1, d2, d3] }
  | _ => none }
def HeapComparesWrongFalsely : Prop := heapComparesRow.holds Try.pinned (OpenSpec.ofChange heapComparesWrong)

/-- 'pendulumlaw08.HeapKeeps': WHATEVER THE INPUT: true; the input reads as it did. -/
def heapKeepsSpec : ChangeSpec := { name := "heapKeeps", fn := fun _ => fun
  | [d] => { results := [.lit (.bool true)], args := [d] }
  | _ => none }
def heapKeepsRow : OpenClaim := { program := "ytaogdgbijjjpjaa", sum := "e76dea90714d15646c2d485a6fa7cadaf7d160c00b8686078b6bf394fdb72c77", func := "pendulum/pendulumlaw08.HeapKeeps", spec := "heapKeeps", unfollowed := true, recurses := true, apart := false }
def HeapKeepsSaid : Prop := heapKeepsRow.holds Try.pinned (OpenSpec.ofChange heapKeepsSpec)

/-- ITS FALSE NEIGHBOUR: 'it returns false'. Refute it at one input. -/
def heapKeepsWrong : ChangeSpec := { name := "heapKeeps", fn := fun _ => fun
  | [d] => { results := [.lit (.bool false)], args := [d] }
  | _ => none }
def HeapKeepsWrongFalsely : Prop := heapKeepsRow.holds Try.pinned (OpenSpec.ofChange heapKeepsWrong)

/-- 'pendulumlaw08.HeapChanges': WHATEVER THE INPUT: true; the input reads as it did. -/
def heapChangesSpec : ChangeSpec := { name := "heapChanges", fn := fun _ => fun
  | [d1, d2] => { results := [.lit (.bool true)], args := [d1, d2] }
  | _ => none }
def heapChangesRow : OpenClaim := { program := "ytaogdgbijjjpjaa", sum := "e76dea90714d15646c2d485a6fa7cadaf7d160c00b8686078b6bf394fdb72c77", func := "pendulum/pendulumlaw08.HeapChanges", spec := "heapChanges", unfollowed := true, recurses := true, apart := false }
def HeapChangesSaid : Prop := heapChangesRow.holds Try.pinned (OpenSpec.ofChange heapChangesSpec)

/-- ITS FALSE NEIGHBOUR: 'it returns false'. Refute it at one input. -/
def heapChangesWrong : ChangeSpec := { name := "heapChanges", fn := fun _ => fun
  | [d1, d2] => { results := [.lit (.bool false)], args := [d1, d2] }
  | _ => none }
def HeapChangesWrongFalsely : Prop := heapChangesRow.holds Try.pinned (OpenSpec.ofChange heapChangesWrong)

/-- 'pendulumlaw08.HeapModel': WHATEVER THE INPUT: true; the input reads as it did. -/
def heapModelSpec : ChangeSpec := { name := "heapModel", fn := fun _ => fun
  | [d1, d2] => { results := [.lit (.bool true)], args := [d1, d2] }
  | _ => none }
def heapModelRow : OpenClaim := { program := "ytaogdgbijjjpjaa", sum := "e76dea90714d15646c2d485a6fa7cadaf7d160c00b8686078b6bf394fdb72c77", func := "pendulum/pendulumlaw08.HeapModel", spec := "heapModel", unfollowed := true, recurses := true, apart := false }
def HeapModelSaid : Prop := heapModelRow.holds Try.pinned (OpenSpec.ofChange heapModelSpec)

/-- ITS FALSE NEIGHBOUR: 'it returns false'. Refute it at one input. -/
def heapModelWrong : ChangeSpec := { name := "heapModel", fn := fun _ => fun
  | [d1, d2] => { results := [.lit (.bool false)], args := [d1, d2] }
  | _ => none }
def HeapModelWrongFalsely : Prop := heapModelRow.holds Try.pinned (OpenSpec.ofChange heapModelWrong)

/-- 'pendulumlaw08.HeapSorted': WHATEVER THE INPUT: true; the input reads as it did. -/
def heapSortedSpec : ChangeSpec := { name := "heapSorted", fn := fun _ => fun
  | [d] => { results := [.lit (.bool true)], args := [d] }
  | _ => none }
def heapSortedRow : OpenClaim := { program := "ytaogdgbijjjpjaa", sum := "e76dea90714d15646c2d485a6fa7cadaf7d160c00b8686078b6bf394fdb72c77", func := "pendulum/pendulumlaw08.HeapSorted", spec := "heapSorted", unfollowed := true, recurses := true, apart := false }
def HeapSortedSaid : Prop := heapSortedRow.holds Try.pinned (OpenSpec.ofChange heapSortedSpec)

/-- ITS FALSE NEIGHBOUR: 'it returns false'. Refute it at one input. -/
def heapSortedWrong : ChangeSpec := { name := "heapSorted", fn := fun _ => fun
  | [d] => { results := [.lit (.bool false)], args := [d] }
  | _ => none }
def HeapSortedWrongFalsely : Prop := heapSortedRow.holds Try.pinned (OpenSpec.ofChange heapSortedWrong)

/-- 'pendulumlaw08.HeapTwo': WHATEVER THE INPUT: true; the input reads as it did. -/
def heapTwoSpec : ChangeSpec := { name := "heapTwo", fn := fun _ => fun
  | [d1, d2] => { results := [.lit (.bool true)], args := [d1, d2] }
  | _ => none }
def heapTwoRow : OpenClaim := { program := "ytaogdgbijjjpjaa", sum := "e76dea90714d15646c2d485a6fa7cadaf7d160c00b8686078b6bf394fdb72c77", func := "pendulum/pendulumlaw08.HeapTwo", spec := "heapTwo", unfollowed := true, recurses := true, apart := false }
def HeapTwoSaid : Prop := heapTwoRow.holds Try.pinned (OpenSpec.ofChange heapTwoSpec)

/-- ITS FALSE NEIGHBOUR: 'it returns false'. Refute it at one input. -/
def heapTwoWrong : ChangeSpec := { name := "heapTwo", fn := fun _ => fun
  | [d1, d2] => { results := [.lit (.bool false)], args := [d1, d2] }
  | _ => none }
def HeapTwoWrongFalsely : Prop := heapTwoRow.holds Try.pinned (OpenSpec.ofChange heapTwoWrong)

/-- 'pendulumlaw16.SlotModel': WHATEVER THE INPUT: true; the input reads as it did. -/
def slotModelSpec : ChangeSpec := { name := "slotModel", fn := fun _ => fun
  | [d1, d2, d3] => { results := [.lit (.bool true)], args := [d1, d2, d3] }
  | _ => none }
def slotModelRow : OpenClaim := { program := "ytaogdgbijjjpjaa", sum := "e76dea90714d15646c2d485a6fa7cadaf7d160c00b8686078b6bf394fdb72c77", func := "pendulum/pendulumlaw16.SlotModel", spec := "slotModel", unfollowed := true, recurses := true, apart := false }
def SlotModelSaid : Prop := slotModelRow.holds Try.pinned (OpenSpec.ofChange slotModelSpec)

/-- ITS FALSE NEIGHBOUR: 'it returns false'. Refute it at one input. -/
def slotModelWrong : ChangeSpec := { name := "slotModel", fn := fun _ => fun
  | [d1, d2, d3] => { results := [.lit (.bool false)], args := [d1, d2, d3] }
  | _ => none }
def SlotModelWrongFalsely : Prop := slotModelRow.holds Try.pinned (OpenSpec.ofChange slotModelWrong)

/-- 'pendulumlaw16.SlotLatest': WHATEVER THE INPUT: true; the input reads as it did. -/
def slotLatestSpec : ChangeSpec := { name := "slotLatest", fn := fun _ => fun
  | [d1, d2] => { results := [.lit (.bool true)], args := [d1, d2] }
  | _ => none }
def slotLatestRow : OpenClaim := { program := "ytaogdgbijjjpjaa", sum := "e76dea90714d15646c2d485a6fa7cadaf7d160c00b8686078b6bf394fdb72c77", func := "pendulum/pendulumlaw16.SlotLatest", spec := "slotLatest", unfollowed := true, recurses := true, apart := false }
def SlotLatestSaid : Prop := slotLatestRow.holds Try.pinned (OpenSpec.ofChange slotLatestSpec)

/-- ITS FALSE NEIGHBOUR: 'it returns false'. Refute it at one input. -/
def slotLatestWrong : ChangeSpec := { name := "slotLatest", fn := fun _ => fun
  | [d1, d2] => { results := [.lit (.bool false)], args := [d1, d2] }
  | _ => none }
def SlotLatestWrongFalsely : Prop := slotLatestRow.holds Try.pinned (OpenSpec.ofChange slotLatestWrong)

/-- 'pendulumlaw16.SlotKeeps': WHATEVER THE INPUT: true; the input reads as it did. -/
def slotKeepsSpec : ChangeSpec := { name := "slotKeeps", fn := fun _ => fun
  | [d] => { results := [.lit (.bool true)], args := [d] }
  | _ => none }
def slotKeepsRow : OpenClaim := { program := "ytaogdgbijjjpjaa", sum := "e76dea90714d15646c2d485a6fa7cadaf7d160c00b8686078b6bf394fdb72c77", func := "pendulum/pendulumlaw16.SlotKeeps", spec := "slotKeeps", unfollowed := true, recurses := true, apart := false }
def SlotKeepsSaid : Prop := slotKeepsRow.holds Try.pinned (OpenSpec.ofChange slotKeepsSpec)

/-- ITS FALSE NEIGHBOUR: 'it returns false'. Refute it at one input. -/
def slotKeepsWrong : ChangeSpec := { name := "slotKeeps", fn := fun _ => fun
  | [d] => { results := [.lit (.bool false)], args := [d] }
  | _ => none }
def SlotKeepsWrongFalsely : Prop := slotKeepsRow.holds Try.pinned (OpenSpec.ofChange slotKeepsWrong)

/-- 'pendulumlaw16.SlotFills': WHATEVER THE INPUT: true; the input reads as it did. -/
def slotFillsSpec : ChangeSpec := { name := "slotFills", fn := fun _ => fun
  | [d1, d2, d3] => { results := [.lit (.bool true)], args := [d1, d2, d3] }
  | _ => none }
def slotFillsRow : OpenClaim := { program := "ytaogdgbijjjpjaa", sum := "e76dea90714d15646c2d485a6fa7cadaf7d160c00b8686078b6bf394fdb72c77", func := "pendulum/pendulumlaw16.SlotFills", spec := "slotFills", unfollowed := true, recurses := true, apart := false }
def SlotFillsSaid : Prop := slotFillsRow.holds Try.pinned (OpenSpec.ofChange slotFillsSpec)

/-- ITS FALSE NEIGHBOUR: 'it returns false'. Refute it at one input. -/
def slotFillsWrong : ChangeSpec := { name := "slotFills", fn := fun _ => fun
  | [d1, d2, d3] => { results := [.lit (.bool false)], args := [d1, d2, d3] }
  | _ => none }
def SlotFillsWrongFalsely : Prop := slotFillsRow.holds Try.pinned (OpenSpec.ofChange slotFillsWrong)

/-- 'pendulumlaw16.SlotGroups': WHATEVER THE INPUT: true; the input reads as it did. -/
def slotGroupsSpec : ChangeSpec := { name := "slotGroups", fn := fun _ => fun
  | [d1, d2] => { results := [.lit (.bool true)], args := [d1, d2] }
  | _ => none }
def slotGroupsRow : OpenClaim := { program := "ytaogdgbijjjpjaa", sum := "e76dea90714d15646c2d485a6fa7cadaf7d160c00b8686078b6bf394fdb72c77", func := "pendulum/pendulumlaw16.SlotGroups", spec := "slotGroups", unfollowed := true, recurses := true, apart := false }
def SlotGroupsSaid : Prop := slotGroupsRow.holds Try.pinned (OpenSpec.ofChange slotGroupsSpec)

/-- ITS FALSE NEIGHBOUR: 'it returns false'. Refute it at one input. -/
def slotGroupsWrong : ChangeSpec := { name := "slotGroups", fn := fun _ => fun
  | [d1, d2] => { results := [.lit (.bool false)], args := [d1, d2] }
  | _ => none }
def SlotGroupsWrongFalsely : Prop := slotGroupsRow.holds Try.pinned (OpenSpec.ofChange slotGroupsWrong)

/- THE SECOND FORM. 'bulk': how many values and letters a reading holds, each counted each time it is reached (what is shared counts as often as it is met; a slice's spare places count too). A statement '..UptoSaid' is the law's where the arguments, and the package variables that the reading takes, are together of bulk at most 1048576: NARROWER than '..Said'. Prove '..Said' where nothing that the law and all that it calls make is longer than what came in: it says more and counts as full. Else prove '..UptoSaid'. A law counts once. -/
mutual
def uptoBulk {H : Type} : DataW H → Nat
  | .lit (.string bytes) => bytes.length + 1
  | .lit _ => 1
  | .nil => 1
  | .ptr d => uptoBulk d + 1
  | .slice elems spare => uptoBulkAll elems + uptoBulkAll spare + 1
  | .agg parts => uptoBulkAll parts + 1
  | .iface _ d => uptoBulk d + 1
  | .map entries => uptoBulkEntries entries + 1
  | .held _ => 1
def uptoBulkAll {H : Type} : List (DataW H) → Nat
  | [] => 0
  | d :: r => uptoBulk d + uptoBulkAll r
def uptoBulkEntries {H : Type} : List (Lit × DataW H) → Nat
  | [] => 0
  | x :: r => uptoBulkEntry x + uptoBulkEntries r
def uptoBulkEntry {H : Type} : Lit × DataW H → Nat
  | (.string bytes, d) => bytes.length + uptoBulk d + 1
  | (_, d) => uptoBulk d + 1
 end
def uptoSmall : (H : Type) → List (DataW H) → Bool := fun _ ds => decide (uptoBulkAll ds ≤ 1048576)
def OpenSpec.upto (s : _root_.Go.ChangeSpec) : _root_.Go.OpenSpec := { _root_.Go.OpenSpec.ofChange s with cond := some uptoSmall }

/-- 'pendulumlaw08.HeapCompares', WHERE WHAT IT READS IS OF BULK AT MOST 1048576: true; the input reads as it did. -/
def heapComparesUptoRow : OpenClaim := { program := "ytaogdgbijjjpjaa", sum := "e76dea90714d15646c2d485a6fa7cadaf7d160c00b8686078b6bf394fdb72c77", func := "pendulum/pendulumlaw08.HeapCompares", spec := "heapCompares", unfollowed := true, recurses := true, apart := false, narrowed := true }
def HeapComparesUptoSaid : Prop := heapComparesUptoRow.holds Try.pinned (OpenSpec.upto heapComparesSpec)

/-- 'pendulumlaw08.HeapKeeps', WHERE WHAT IT READS IS OF BULK AT MOST 1048576: true; the input reads as it did. -/
def heapKeepsUptoRow : OpenClaim := { program := "ytaogdgbijjjpjaa", sum := "e76dea90714d15646c2d485a6fa7cadaf7d160c00b8686078b6bf394fdb72c77", func := "pendulum/pendulumlaw08.HeapKeeps", spec := "heapKeeps", unfollowed := true, recurses := true, apart := false, narrowed := true }
def HeapKeepsUptoSaid : Prop := heapKeepsUptoRow.holds Try.pinned (OpenSpec.upto heapKeepsSpec)

/-- 'pendulumlaw08.HeapChanges', WHERE WHAT IT READS IS OF BULK AT MOST 1048576: true; the input reads as it did. -/
def heapChangesUptoRow : OpenClaim := { program := "ytaogdgbijjjpjaa", sum := "e76dea90714d15646c2d485a6fa7cadaf7d160c00b8686078b6bf394fdb72c77", func := "pendulum/pendulumlaw08.HeapChanges", spec := "heapChanges", unfollowed := true, recurses := true, apart := false, narrowed := true }
def HeapChangesUptoSaid : Prop := heapChangesUptoRow.holds Try.pinned (OpenSpec.upto heapChangesSpec)

/-- 'pendulumlaw08.HeapModel', WHERE WHAT IT READS IS OF BULK AT MOST 1048576: true; the input reads as it did. -/
def heapModelUptoRow : OpenClaim := { program := "ytaogdgbijjjpjaa", sum := "e76dea90714d15646c2d485a6fa7cadaf7d160c00b8686078b6bf394fdb72c77", func := "pendulum/pendulumlaw08.HeapModel", spec := "heapModel", unfollowed := true, recurses := true, apart := false, narrowed := true }
def HeapModelUptoSaid : Prop := heapModelUptoRow.holds Try.pinned (OpenSpec.upto heapModelSpec)

/-- 'pendulumlaw08.HeapSorted', WHERE WHAT IT READS IS OF BULK AT MOST 1048576: true; the input reads as it did. -/
def heapSortedUptoRow : OpenClaim := { program := "ytaogdgbijjjpjaa", sum := "e76dea90714d15646c2d485a6fa7cadaf7d160c00b8686078b6bf394fdb72c77", func := "pendulum/pendulumlaw08.HeapSorted", spec := "heapSorted", unfollowed := true, recurses := true, apart := false, narrowed := true }
def HeapSortedUptoSaid : Prop := heapSortedUptoRow.holds Try.pinned (OpenSpec.upto heapSortedSpec)

/-- 'pendulumlaw08.HeapTwo', WHERE WHAT IT READS IS OF BULK AT MOST 1048576: true; the input reads as it did. -/
def heapTwoUptoRow : OpenClaim := { program := "ytaogdgbijjjpjaa", sum := "e76dea90714d15646c2d485a6fa7cadaf7d160c00b8686078b6bf394fdb72c77", func := "pendulum/pendulumlaw08.HeapTwo", spec := "heapTwo", unfollowed := true, recurses := true, apart := false, narrowed := true }
def HeapTwoUptoSaid : Prop := heapTwoUptoRow.holds Try.pinned (OpenSpec.upto heapTwoSpec)

/-- 'pendulumlaw16.SlotModel', WHERE WHAT IT READS IS OF BULK AT MOST 1048576: true; the input reads as it did. -/
def slotModelUptoRow : OpenClaim := { program := "ytaogdgbijjjpjaa", sum := "e76dea90714d15646c2d485a6fa7cadaf7d160c00b8686078b6bf394fdb72c77", func := "pendulum/pendulumlaw16.SlotModel", spec := "slotModel", unfollowed := true, recurses := true, apart := false, narrowed := true }
def SlotModelUptoSaid : Prop := slotModelUptoRow.holds Try.pinned (OpenSpec.upto slotModelSpec)

/-- 'pendulumlaw16.SlotLatest', WHERE WHAT IT READS IS OF BULK AT MOST 1048576: true; the input reads as it did. -/
def slotLatestUptoRow : OpenClaim := { program := "ytaogdgbijjjpjaa", sum := "e76dea90714d15646c2d485a6fa7cadaf7d160c00b8686078b6bf394fdb72c77", func := "pendulum/pendulumlaw16.SlotLatest", spec := "slotLatest", unfollowed := true, recurses := true, apart := false, narrowed := true }
def SlotLatestUptoSaid : Prop := slotLatestUptoRow.holds Try.pinned (OpenSpec.upto slotLatestSpec)

/-- 'pendulumlaw16.SlotKeeps', WHERE WHAT IT READS IS OF BULK AT MOST 1048576: true; the input reads as it did. -/
def slotKeepsUptoRow : OpenClaim := { program := "ytaogdgbijjjpjaa", sum := "e76dea90714d15646c2d485a6fa7cadaf7d160c00b8686078b6bf394fdb72c77", func := "pendulum/pendulumlaw16.SlotKeeps", spec := "slotKeeps", unfollowed := true, recurses := true, apart := false, narrowed := true }
def SlotKeepsUptoSaid : Prop := slotKeepsUptoRow.holds Try.pinned (OpenSpec.upto slotKeepsSpec)

/-- 'pendulumlaw16.SlotFills', WHERE WHAT IT READS IS OF BULK AT MOST 1048576: true; the input reads as it did. -/
def slotFillsUptoRow : OpenClaim := { program := "ytaogdgbijjjpjaa", sum := "e76dea90714d15646c2d485a6fa7cadaf7d160c00b8686078b6bf394fdb72c77", func := "pendulum/pendulumlaw16.SlotFills", spec := "slotFills", unfollowed := true, recurses := true, apart := false, narrowed := true }
def SlotFillsUptoSaid : Prop := slotFillsUptoRow.holds Try.pinned (OpenSpec.upto slotFillsSpec)

/-- 'pendulumlaw16.SlotGroups', WHERE WHAT IT READS IS OF BULK AT MOST 1048576: true; the input reads as it did. -/
def slotGroupsUptoRow : OpenClaim := { program := "ytaogdgbijjjpjaa", sum := "e76dea90714d15646c2d485a6fa7cadaf7d160c00b8686078b6bf394fdb72c77", func := "pendulum/pendulumlaw16.SlotGroups", spec := "slotGroups", unfollowed := true, recurses := true, apart := false, narrowed := true }
def SlotGroupsUptoSaid : Prop := slotGroupsUptoRow.holds Try.pinned (OpenSpec.upto slotGroupsSpec)

end Rows
end Go.Proofs.Ytaogdgbijjjpjaa
