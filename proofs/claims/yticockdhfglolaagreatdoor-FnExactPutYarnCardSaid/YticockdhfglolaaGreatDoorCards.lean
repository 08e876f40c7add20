/-
  DERIVED. GIVEN WITH THE SEED: THE CARDS: each row of YticockdhfglolaaGreatDoorRows.lean that lists a variable, with what it lists TIED to the program's text (the seventh form; the later family's looks); each row that meets fmt, with fmt's text TOLD by the authors' own Lean function (tested against real Go, not proved from fmt's source: count such statements apart). THE CARD IS WHAT COUNTS. Prove the row's statement (the work); the ties are given (YticockdhfglolaaGreatDoorTie.lean); close each card by the builder's one call (the guide's Derived/Test/ToyasCard.lean, 'card_holds'). Laid BY PROGRAM, IN A SANDBOX (cutbox-door.mjs). By AI agents, Wed Nov 11 2026. No macro, syntax, notation, axiom, sorry.
-/
import Derived.Test.YticockdhfglolaaGreatDoorRows
import GoSem.ClaimSeven
namespace Go.Proofs.YticockdhfglolaaGreatDoor
namespace Rows

/-- THE TIED CARD OF 'laws.FnExactVersions'. -/
def fnExactVersionsCard : Claim7 := { stood := { row := fnExactVersionsRow, standIns := [], harness := (true, "34764a752932c8a0766e9bea196b5a36355e355e3ca8aa4fa1f3957727ba5789"), looks := true }, kinds := [], alts := [], laidByText := true, laidKinds := [.data, .data, .data, .data, .sentinel, .sentinel, .pinned], laidTests := true, laidLooks := .later }
def FnExactVersionsCardSaid : Prop := Claim7.holds Tryz.pinned (.plain (OpenSpec.ofChange fnExactVersionsSpec)) fnExactVersionsCard

/-- THE TIED CARD OF 'laws.FnExactReach'. -/
def fnExactReachCard : Claim7 := { stood := { row := fnExactReachRow, standIns := [], harness := (true, "34764a752932c8a0766e9bea196b5a36355e355e3ca8aa4fa1f3957727ba5789"), looks := true }, kinds := [], alts := [], laidByText := true, laidKinds := [.data, .data, .data, .data, .sentinel, .sentinel, .pinned], laidTests := true, laidLooks := .later }
def FnExactReachCardSaid : Prop := Claim7.holds Tryz.pinned (.plain (OpenSpec.ofChange fnExactReachSpec)) fnExactReachCard

/-- THE TIED CARD OF 'laws.FnExactEntriesOf'. -/
def fnExactEntriesOfCard : Claim7 := { stood := { row := fnExactEntriesOfRow, standIns := [], harness := (true, "34764a752932c8a0766e9bea196b5a36355e355e3ca8aa4fa1f3957727ba5789"), looks := true }, kinds := [], alts := [], laidByText := true, laidKinds := [.data, .data, .data, .data, .sentinel, .sentinel, .pinned], laidTests := true, laidLooks := .later }
def FnExactEntriesOfCardSaid : Prop := Claim7.holds Tryz.pinned (.plain (OpenSpec.ofChange fnExactEntriesOfSpec)) fnExactEntriesOfCard

/-- THE TIED CARD OF 'laws.FnExactPutYarn'. -/
def fnExactPutYarnCard : Claim7 := { stood := { row := fnExactPutYarnRow, standIns := [], harness := (true, "34764a752932c8a0766e9bea196b5a36355e355e3ca8aa4fa1f3957727ba5789"), looks := true }, kinds := [], alts := [], laidByText := true, laidKinds := [.data, .data, .data, .data, .sentinel, .sentinel, .pinned], laidTests := true, laidLooks := .later }
def FnExactPutYarnCardSaid : Prop := Claim7.holds Tryz.pinned (.plain (OpenSpec.ofChange fnExactPutYarnSpec)) fnExactPutYarnCard

/-- THE SECOND FORM's CARD OF 'laws.FnExactVersions'. -/
def fnExactVersionsUptoCard : Claim7 := { stood := { row := fnExactVersionsUptoRow, standIns := [], harness := (true, "34764a752932c8a0766e9bea196b5a36355e355e3ca8aa4fa1f3957727ba5789"), looks := true }, kinds := [], alts := [], laidByText := true, laidKinds := [.data, .data, .data, .data, .sentinel, .sentinel, .pinned], laidTests := true, laidLooks := .later }
def FnExactVersionsUptoCardSaid : Prop := Claim7.holds Tryz.pinned (.plain (OpenSpec.upto fnExactVersionsSpec)) fnExactVersionsUptoCard

/-- THE SECOND FORM's CARD OF 'laws.FnExactReach'. -/
def fnExactReachUptoCard : Claim7 := { stood := { row := fnExactReachUptoRow, standIns := [], harness := (true, "34764a752932c8a0766e9bea196b5a36355e355e3ca8aa4fa1f3957727ba5789"), looks := true }, kinds := [], alts := [], laidByText := true, laidKinds := [.data, .data, .data, .data, .sentinel, .sentinel, .pinned], laidTests := true, laidLooks := .later }
def FnExactReachUptoCardSaid : Prop := Claim7.holds Tryz.pinned (.plain (OpenSpec.upto fnExactReachSpec)) fnExactReachUptoCard

/-- THE SECOND FORM's CARD OF 'laws.FnExactEntriesOf'. -/
def fnExactEntriesOfUptoCard : Claim7 := { stood := { row := fnExactEntriesOfUptoRow, standIns := [], harness := (true, "34764a752932c8a0766e9bea196b5a36355e355e3ca8aa4fa1f3957727ba5789"), looks := true }, kinds := [], alts := [], laidByText := true, laidKinds := [.data, .data, .data, .data, .sentinel, .sentinel, .pinned], laidTests := true, laidLooks := .later }
def FnExactEntriesOfUptoCardSaid : Prop := Claim7.holds Tryz.pinned (.plain (OpenSpec.upto fnExactEntriesOfSpec)) fnExactEntriesOfUptoCard

/-- THE SECOND FORM's CARD OF 'laws.FnExactPutYarn'. -/
def fnExactPutYarnUptoCard : Claim7 := { stood := { row := fnExactPutYarnUptoRow, standIns := [], harness := (true, "34764a752932c8a0766e9bea196b5a36355e355e3ca8aa4fa1f3957727ba5789"), looks := true }, kinds := [], alts := [], laidByText := true, laidKinds := [.data, .data, .data, .data, .sentinel, .sentinel, .pinned], laidTests := true, laidLooks := .later }
def FnExactPutYarnUptoCardSaid : Prop := Claim7.holds Tryz.pinned (.plain (OpenSpec.upto fnExactPutYarnSpec)) fnExactPutYarnUptoCard
end Rows
end Go.Proofs.YticockdhfglolaaGreatDoor
