/-
  DERIVED. GIVEN WITH THE SEED: THE CARDS: each row of YtgegcfhifojjiaaDoorRows.lean that lists a variable, with what it lists TIED to the program's text (the seventh form; the later family's looks); each row that meets fmt, with fmt's text TOLD by the authors' own Lean function (tested against real Go, not proved from fmt's source: count such statements apart). THE CARD IS WHAT COUNTS. Prove the row's statement (the work); the ties are given (YtgegcfhifojjiaaDoorTie.lean); close each card by the builder's one call (the guide's Derived/Test/ToyasCard.lean, 'card_holds'). Laid BY PROGRAM, IN A SANDBOX (cutbox-door.mjs). By AI agents, Wed Nov 11 2026. No macro, syntax, notation, axiom, sorry.
-/
import Derived.Test.YtgegcfhifojjiaaDoorRows
import GoSem.ClaimSeven
namespace Go.Proofs.YtgegcfhifojjiaaDoor
namespace Rows

/-- THE TIED CARD OF 'laws.FnExactGetIntegrity'. -/
def fnExactGetIntegrityCard : Claim7 := { stood := { row := fnExactGetIntegrityRow, standIns := [], harness := (true, "309eb82b30f6a36f137db0afd8a78f90d2a4c6c83e89c0a9ae9c25b487850c18"), looks := true }, kinds := [], alts := [], laidByText := true, laidKinds := [.data, .pinned], laidTests := true, laidLooks := .later }
def FnExactGetIntegrityCardSaid : Prop := Claim7.holds Tryd.pinned (.plain (OpenSpec.ofChange fnExactGetIntegritySpec)) fnExactGetIntegrityCard

/-- THE TIED CARD OF 'laws.FnExactGetTree'. -/
def fnExactGetTreeCard : Claim7 := { stood := { row := fnExactGetTreeRow, standIns := [], harness := (true, "309eb82b30f6a36f137db0afd8a78f90d2a4c6c83e89c0a9ae9c25b487850c18"), looks := true }, kinds := [], alts := [], laidByText := true, laidKinds := [.data, .data, .data, .sentinel, .sentinel], laidTests := true, laidLooks := .later }
def FnExactGetTreeCardSaid : Prop := Claim7.holds Tryd.pinned (.plain (OpenSpec.ofChange fnExactGetTreeSpec)) fnExactGetTreeCard

/-- THE SECOND FORM's CARD OF 'laws.FnExactGetIntegrity'. -/
def fnExactGetIntegrityUptoCard : Claim7 := { stood := { row := fnExactGetIntegrityUptoRow, standIns := [], harness := (true, "309eb82b30f6a36f137db0afd8a78f90d2a4c6c83e89c0a9ae9c25b487850c18"), looks := true }, kinds := [], alts := [], laidByText := true, laidKinds := [.data, .pinned], laidTests := true, laidLooks := .later }
def FnExactGetIntegrityUptoCardSaid : Prop := Claim7.holds Tryd.pinned (.plain (OpenSpec.upto fnExactGetIntegritySpec)) fnExactGetIntegrityUptoCard

/-- THE SECOND FORM's CARD OF 'laws.FnExactGetTree'. -/
def fnExactGetTreeUptoCard : Claim7 := { stood := { row := fnExactGetTreeUptoRow, standIns := [], harness := (true, "309eb82b30f6a36f137db0afd8a78f90d2a4c6c83e89c0a9ae9c25b487850c18"), looks := true }, kinds := [], alts := [], laidByText := true, laidKinds := [.data, .data, .data, .sentinel, .sentinel], laidTests := true, laidLooks := .later }
def FnExactGetTreeUptoCardSaid : Prop := Claim7.holds Tryd.pinned (.plain (OpenSpec.upto fnExactGetTreeSpec)) fnExactGetTreeUptoCard
end Rows
end Go.Proofs.YtgegcfhifojjiaaDoor
