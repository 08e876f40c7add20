/-
  DERIVED. GIVEN WITH THE SEED: THE CARDS: each row of YtgegcfhifojjiaaGreatDoorRows.lean that lists a variable, with what it lists TIED to the program's text (the seventh form; the later family's looks); each row that meets fmt, with fmt's text TOLD by the authors' own Lean function (tested against real Go, not proved from fmt's source: count such statements apart). THE CARD IS WHAT COUNTS. Prove the row's statement (the work); the ties are given (YtgegcfhifojjiaaGreatDoorTie.lean); close each card by the builder's one call (the guide's Derived/Test/ToyasCard.lean, 'card_holds'). Laid BY PROGRAM, IN A SANDBOX (cutbox-door.mjs). By AI agents, Wed Nov 11 2026. No macro, syntax, notation, axiom, sorry.
-/
import Derived.Test.YtgegcfhifojjiaaGreatDoorRows
import GoSem.ClaimSeven
namespace Go.Proofs.YtgegcfhifojjiaaGreatDoor
namespace Rows

/-- THE TIED CARD OF 'laws.FnExactPutPurl'. -/
def fnExactPutPurlCard : Claim7 := { stood := { row := fnExactPutPurlRow, standIns := [], harness := (true, "79ed4e559e40321efdde493acc9b19bc814a1c345d380972a3f65dc639d32eb3"), looks := true }, kinds := [], alts := [], laidByText := true, laidKinds := [.data, .data, .data, .data, .sentinel, .sentinel, .pinned, .pinned], laidTests := true, laidLooks := .later }
def FnExactPutPurlCardSaid : Prop := Claim7.holds Tryz.pinned (.plain (OpenSpec.ofChange fnExactPutPurlSpec)) fnExactPutPurlCard

/-- THE TIED CARD OF 'laws.FnExactReadNeed'. -/
def fnExactReadNeedCard : Claim7 := { stood := { row := fnExactReadNeedRow, standIns := [], harness := (true, "79ed4e559e40321efdde493acc9b19bc814a1c345d380972a3f65dc639d32eb3"), looks := true }, kinds := [], alts := [], laidByText := true, laidKinds := [.data, .data, .data, .data, .sentinel, .sentinel, .pinned], laidTests := true, laidLooks := .later }
def FnExactReadNeedCardSaid : Prop := Claim7.holds Tryz.pinned (.plain (OpenSpec.ofChange fnExactReadNeedSpec)) fnExactReadNeedCard

/-- THE TIED CARD OF 'laws.FnExactGetPurl'. -/
def fnExactGetPurlCard : Claim7 := { stood := { row := fnExactGetPurlRow, standIns := [], harness := (true, "79ed4e559e40321efdde493acc9b19bc814a1c345d380972a3f65dc639d32eb3"), looks := true }, kinds := [], alts := [], laidByText := true, laidKinds := [.data, .data, .data, .data, .sentinel, .sentinel, .pinned, .pinned], laidTests := true, laidLooks := .later }
def FnExactGetPurlCardSaid : Prop := Claim7.holds Tryz.pinned (.plain (OpenSpec.ofChange fnExactGetPurlSpec)) fnExactGetPurlCard

/-- THE TIED CARD OF 'laws.FnExactPutGoSum'. -/
def fnExactPutGoSumCard : Claim7 := { stood := { row := fnExactPutGoSumRow, standIns := [], harness := (true, "79ed4e559e40321efdde493acc9b19bc814a1c345d380972a3f65dc639d32eb3"), looks := true }, kinds := [], alts := [], laidByText := true, laidKinds := [.data, .data, .data, .data, .sentinel, .sentinel, .pinned], laidTests := true, laidLooks := .later }
def FnExactPutGoSumCardSaid : Prop := Claim7.holds Tryz.pinned (.plain (OpenSpec.ofChange fnExactPutGoSumSpec)) fnExactPutGoSumCard

/-- THE TIED CARD OF 'laws.FnExactGoFits'. -/
def fnExactGoFitsCard : Claim7 := { stood := { row := fnExactGoFitsRow, standIns := [], harness := (true, "79ed4e559e40321efdde493acc9b19bc814a1c345d380972a3f65dc639d32eb3"), looks := true }, kinds := [], alts := [], laidByText := true, laidKinds := [.data, .data, .data, .data, .sentinel, .sentinel, .pinned], laidTests := true, laidLooks := .later }
def FnExactGoFitsCardSaid : Prop := Claim7.holds Tryz.pinned (.plain (OpenSpec.ofChange fnExactGoFitsSpec)) fnExactGoFitsCard

/-- THE TIED CARD OF 'laws.FnExactToSpdx'. -/
def fnExactToSpdxCard : Claim7 := { stood := { row := fnExactToSpdxRow, standIns := [], harness := (true, "79ed4e559e40321efdde493acc9b19bc814a1c345d380972a3f65dc639d32eb3"), looks := true }, kinds := [], alts := [], laidByText := true, laidKinds := [.data, .data, .data, .data, .sentinel, .sentinel, .pinned], laidTests := true, laidLooks := .later }
def FnExactToSpdxCardSaid : Prop := Claim7.holds Tryz.pinned (.plain (OpenSpec.ofChange fnExactToSpdxSpec)) fnExactToSpdxCard

/-- THE TIED CARD OF 'laws.FnExactPurls'. -/
def fnExactPurlsCard : Claim7 := { stood := { row := fnExactPurlsRow, standIns := [], harness := (true, "79ed4e559e40321efdde493acc9b19bc814a1c345d380972a3f65dc639d32eb3"), looks := true }, kinds := [], alts := [], laidByText := true, laidKinds := [.data, .data, .data, .data, .sentinel, .sentinel, .pinned, .pinned], laidTests := true, laidLooks := .later }
def FnExactPurlsCardSaid : Prop := Claim7.holds Tryz.pinned (.plain (OpenSpec.ofChange fnExactPurlsSpec)) fnExactPurlsCard

/-- THE TIED CARD OF 'laws.FnExactGetGoSum'. -/
def fnExactGetGoSumCard : Claim7 := { stood := { row := fnExactGetGoSumRow, standIns := [], harness := (true, "79ed4e559e40321efdde493acc9b19bc814a1c345d380972a3f65dc639d32eb3"), looks := true }, kinds := [], alts := [], laidByText := true, laidKinds := [.data, .data, .data, .data, .sentinel, .sentinel, .pinned], laidTests := true, laidLooks := .later }
def FnExactGetGoSumCardSaid : Prop := Claim7.holds Tryz.pinned (.plain (OpenSpec.ofChange fnExactGetGoSumSpec)) fnExactGetGoSumCard

/-- THE SECOND FORM's CARD OF 'laws.FnExactPutPurl'. -/
def fnExactPutPurlUptoCard : Claim7 := { stood := { row := fnExactPutPurlUptoRow, standIns := [], harness := (true, "79ed4e559e40321efdde493acc9b19bc814a1c345d380972a3f65dc639d32eb3"), looks := true }, kinds := [], alts := [], laidByText := true, laidKinds := [.data, .data, .data, .data, .sentinel, .sentinel, .pinned, .pinned], laidTests := true, laidLooks := .later }
def FnExactPutPurlUptoCardSaid : Prop := Claim7.holds Tryz.pinned (.plain (OpenSpec.upto fnExactPutPurlSpec)) fnExactPutPurlUptoCard

/-- THE SECOND FORM's CARD OF 'laws.FnExactReadNeed'. -/
def fnExactReadNeedUptoCard : Claim7 := { stood := { row := fnExactReadNeedUptoRow, standIns := [], harness := (true, "79ed4e559e40321efdde493acc9b19bc814a1c345d380972a3f65dc639d32eb3"), looks := true }, kinds := [], alts := [], laidByText := true, laidKinds := [.data, .data, .data, .data, .sentinel, .sentinel, .pinned], laidTests := true, laidLooks := .later }
def FnExactReadNeedUptoCardSaid : Prop := Claim7.holds Tryz.pinned (.plain (OpenSpec.upto fnExactReadNeedSpec)) fnExactReadNeedUptoCard

/-- THE SECOND FORM's CARD OF 'laws.FnExactGetPurl'. -/
def fnExactGetPurlUptoCard : Claim7 := { stood := { row := fnExactGetPurlUptoRow, standIns := [], harness := (true, "79ed4e559e40321efdde493acc9b19bc814a1c345d380972a3f65dc639d32eb3"), looks := true }, kinds := [], alts := [], laidByText := true, laidKinds := [.data, .data, .data, .data, .sentinel, .sentinel, .pinned, .pinned], laidTests := true, laidLooks := .later }
def FnExactGetPurlUptoCardSaid : Prop := Claim7.holds Tryz.pinned (.plain (OpenSpec.upto fnExactGetPurlSpec)) fnExactGetPurlUptoCard

/-- THE SECOND FORM's CARD OF 'laws.FnExactPutGoSum'. -/
def fnExactPutGoSumUptoCard : Claim7 := { stood := { row := fnExactPutGoSumUptoRow, standIns := [], harness := (true, "79ed4e559e40321efdde493acc9b19bc814a1c345d380972a3f65dc639d32eb3"), looks := true }, kinds := [], alts := [], laidByText := true, laidKinds := [.data, .data, .data, .data, .sentinel, .sentinel, .pinned], laidTests := true, laidLooks := .later }
def FnExactPutGoSumUptoCardSaid : Prop := Claim7.holds Tryz.pinned (.plain (OpenSpec.upto fnExactPutGoSumSpec)) fnExactPutGoSumUptoCard

/-- THE SECOND FORM's CARD OF 'laws.FnExactGoFits'. -/
def fnExactGoFitsUptoCard : Claim7 := { stood := { row := fnExactGoFitsUptoRow, standIns := [], harness := (true, "79ed4e559e40321efdde493acc9b19bc814a1c345d380972a3f65dc639d32eb3"), looks := true }, kinds := [], alts := [], laidByText := true, laidKinds := [.data, .data, .data, .data, .sentinel, .sentinel, .pinned], laidTests := true, laidLooks := .later }
def FnExactGoFitsUptoCardSaid : Prop := Claim7.holds Tryz.pinned (.plain (OpenSpec.upto fnExactGoFitsSpec)) fnExactGoFitsUptoCard

/-- THE SECOND FORM's CARD OF 'laws.FnExactToSpdx'. -/
def fnExactToSpdxUptoCard : Claim7 := { stood := { row := fnExactToSpdxUptoRow, standIns := [], harness := (true, "79ed4e559e40321efdde493acc9b19bc814a1c345d380972a3f65dc639d32eb3"), looks := true }, kinds := [], alts := [], laidByText := true, laidKinds := [.data, .data, .data, .data, .sentinel, .sentinel, .pinned], laidTests := true, laidLooks := .later }
def FnExactToSpdxUptoCardSaid : Prop := Claim7.holds Tryz.pinned (.plain (OpenSpec.upto fnExactToSpdxSpec)) fnExactToSpdxUptoCard

/-- THE SECOND FORM's CARD OF 'laws.FnExactPurls'. -/
def fnExactPurlsUptoCard : Claim7 := { stood := { row := fnExactPurlsUptoRow, standIns := [], harness := (true, "79ed4e559e40321efdde493acc9b19bc814a1c345d380972a3f65dc639d32eb3"), looks := true }, kinds := [], alts := [], laidByText := true, laidKinds := [.data, .data, .data, .data, .sentinel, .sentinel, .pinned, .pinned], laidTests := true, laidLooks := .later }
def FnExactPurlsUptoCardSaid : Prop := Claim7.holds Tryz.pinned (.plain (OpenSpec.upto fnExactPurlsSpec)) fnExactPurlsUptoCard

/-- THE SECOND FORM's CARD OF 'laws.FnExactGetGoSum'. -/
def fnExactGetGoSumUptoCard : Claim7 := { stood := { row := fnExactGetGoSumUptoRow, standIns := [], harness := (true, "79ed4e559e40321efdde493acc9b19bc814a1c345d380972a3f65dc639d32eb3"), looks := true }, kinds := [], alts := [], laidByText := true, laidKinds := [.data, .data, .data, .data, .sentinel, .sentinel, .pinned], laidTests := true, laidLooks := .later }
def FnExactGetGoSumUptoCardSaid : Prop := Claim7.holds Tryz.pinned (.plain (OpenSpec.upto fnExactGetGoSumSpec)) fnExactGetGoSumUptoCard
end Rows
end Go.Proofs.YtgegcfhifojjiaaGreatDoor
