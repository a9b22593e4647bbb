/-
  DERIVED. GIVEN WITH THE SEED: THE CARDS: each row of YtnoahekcemfmcaaGreatDoorRows.lean that lists a variable, with what it lists TIED to the program's text (the seventh form; the later family's looks); each row that meets fmt, with fmt's text TOLD by the authors' own Lean function (tested against real Go, not proved from fmt's source: count such statements apart). THE CARD IS WHAT COUNTS. Prove the row's statement (the work); the ties are given (YtnoahekcemfmcaaGreatDoorTie.lean); close each card by the builder's one call (the guide's Derived/Test/ToyasCard.lean, 'card_holds'). Laid BY PROGRAM, IN A SANDBOX (cutbox-door.mjs). By AI agents, Wed Nov 11 2026. No macro, syntax, notation, axiom, sorry.
-/
import Derived.Test.YtnoahekcemfmcaaGreatDoorRows
import GoSem.ClaimSeven
namespace Go.Proofs.YtnoahekcemfmcaaGreatDoor
namespace Rows

/-- THE TIED CARD OF 'pendulumtop.WholeFirm'. -/
def wholeFirmCard : Claim7 := { stood := { row := wholeFirmRow, standIns := [], harness := (true, "6537da0c22dfd081b475b6a7c1c5e4a04af4c3010ebbdf39129f2a149bd56533"), looks := false }, kinds := [], alts := [], laidByText := true, laidKinds := [.data, .pinned], laidTests := true, laidLooks := .later }
def WholeFirmCardSaid : Prop := Claim7.holds Tryz.pinned (.plain (OpenSpec.ofChange wholeFirmSpec)) wholeFirmCard

/-- THE TIED CARD OF 'pendulumtop.WholeBands'. -/
def wholeBandsCard : Claim7 := { stood := { row := wholeBandsRow, standIns := [], harness := (true, "6537da0c22dfd081b475b6a7c1c5e4a04af4c3010ebbdf39129f2a149bd56533"), looks := false }, kinds := [], alts := [], laidByText := true, laidKinds := [.data, .pinned], laidTests := true, laidLooks := .later }
def WholeBandsCardSaid : Prop := Claim7.holds Tryz.pinned (.plain (OpenSpec.ofChange wholeBandsSpec)) wholeBandsCard

/-- THE TIED CARD OF 'pendulumtop.WholeSafe'. -/
def wholeSafeCard : Claim7 := { stood := { row := wholeSafeRow, standIns := [], harness := (true, "6537da0c22dfd081b475b6a7c1c5e4a04af4c3010ebbdf39129f2a149bd56533"), looks := false }, kinds := [], alts := [], laidByText := true, laidKinds := [.data, .pinned], laidTests := true, laidLooks := .later }
def WholeSafeCardSaid : Prop := Claim7.holds Tryz.pinned (.plain (OpenSpec.ofChange wholeSafeSpec)) wholeSafeCard

/-- THE TIED CARD OF 'pendulumtop.WholeCalm'. -/
def wholeCalmCard : Claim7 := { stood := { row := wholeCalmRow, standIns := [], harness := (true, "6537da0c22dfd081b475b6a7c1c5e4a04af4c3010ebbdf39129f2a149bd56533"), looks := false }, kinds := [], alts := [], laidByText := true, laidKinds := [.data, .pinned], laidTests := true, laidLooks := .later }
def WholeCalmCardSaid : Prop := Claim7.holds Tryz.pinned (.plain (OpenSpec.ofChange wholeCalmSpec)) wholeCalmCard

/-- THE SECOND FORM's CARD OF 'pendulumtop.WholeFirm'. -/
def wholeFirmUptoCard : Claim7 := { stood := { row := wholeFirmUptoRow, standIns := [], harness := (true, "6537da0c22dfd081b475b6a7c1c5e4a04af4c3010ebbdf39129f2a149bd56533"), looks := false }, kinds := [], alts := [], laidByText := true, laidKinds := [.data, .pinned], laidTests := true, laidLooks := .later }
def WholeFirmUptoCardSaid : Prop := Claim7.holds Tryz.pinned (.plain (OpenSpec.upto wholeFirmSpec)) wholeFirmUptoCard

/-- THE SECOND FORM's CARD OF 'pendulumtop.WholeBands'. -/
def wholeBandsUptoCard : Claim7 := { stood := { row := wholeBandsUptoRow, standIns := [], harness := (true, "6537da0c22dfd081b475b6a7c1c5e4a04af4c3010ebbdf39129f2a149bd56533"), looks := false }, kinds := [], alts := [], laidByText := true, laidKinds := [.data, .pinned], laidTests := true, laidLooks := .later }
def WholeBandsUptoCardSaid : Prop := Claim7.holds Tryz.pinned (.plain (OpenSpec.upto wholeBandsSpec)) wholeBandsUptoCard

/-- THE SECOND FORM's CARD OF 'pendulumtop.WholeSafe'. -/
def wholeSafeUptoCard : Claim7 := { stood := { row := wholeSafeUptoRow, standIns := [], harness := (true, "6537da0c22dfd081b475b6a7c1c5e4a04af4c3010ebbdf39129f2a149bd56533"), looks := false }, kinds := [], alts := [], laidByText := true, laidKinds := [.data, .pinned], laidTests := true, laidLooks := .later }
def WholeSafeUptoCardSaid : Prop := Claim7.holds Tryz.pinned (.plain (OpenSpec.upto wholeSafeSpec)) wholeSafeUptoCard

/-- THE SECOND FORM's CARD OF 'pendulumtop.WholeCalm'. -/
def wholeCalmUptoCard : Claim7 := { stood := { row := wholeCalmUptoRow, standIns := [], harness := (true, "6537da0c22dfd081b475b6a7c1c5e4a04af4c3010ebbdf39129f2a149bd56533"), looks := false }, kinds := [], alts := [], laidByText := true, laidKinds := [.data, .pinned], laidTests := true, laidLooks := .later }
def WholeCalmUptoCardSaid : Prop := Claim7.holds Tryz.pinned (.plain (OpenSpec.upto wholeCalmSpec)) wholeCalmUptoCard
end Rows
end Go.Proofs.YtnoahekcemfmcaaGreatDoor
