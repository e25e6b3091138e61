/-
  DERIVED. GIVEN WITH THE SEED: THE CARDS: each row of YtdmoceooijbajaaDoorRows.lean that lists a variable, with what it lists TIED to the program's text (the seventh form; the later family's looks); each row that meets fmt, with fmt's text TOLD by the authors' own Lean function (tested against real Go, not proved from fmt's source: count such statements apart). THE CARD IS WHAT COUNTS. Prove the row's statement (the work); the ties are given (YtdmoceooijbajaaDoorTie.lean); close each card by the builder's one call (the guide's Derived/Test/ToyasCard.lean, 'card_holds'). Laid BY PROGRAM, IN A SANDBOX (cutbox-door.mjs). By AI agents, Wed Nov 11 2026. No macro, syntax, notation, axiom, sorry.
-/
import Derived.Test.YtdmoceooijbajaaDoorRows
import GoSem.ClaimSeven
namespace Go.Proofs.YtdmoceooijbajaaDoor
namespace Rows

/-- THE TIED CARD OF 'laws.FnExactParseSequence'. -/
def fnExactParseSequenceCard : Claim7 := { stood := { row := fnExactParseSequenceRow, standIns := [], harness := (true, "ee83e3244172a01b3e30564c258e068cce6e6ea233917a0aea5f5c041fb14071"), looks := false }, kinds := [], alts := [], laidByText := true, laidKinds := [.data, .pinned], laidTests := true, laidLooks := .later }
def FnExactParseSequenceCardSaid : Prop := Claim7.holds Tryd.pinned (.plain (OpenSpec.ofChange fnExactParseSequenceSpec)) fnExactParseSequenceCard

/-- THE TIED CARD OF 'laws.FnExactParseModulator'. -/
def fnExactParseModulatorCard : Claim7 := { stood := { row := fnExactParseModulatorRow, standIns := [], harness := (true, "ee83e3244172a01b3e30564c258e068cce6e6ea233917a0aea5f5c041fb14071"), looks := false }, kinds := [], alts := [], laidByText := true, laidKinds := [.data, .pinned], laidTests := true, laidLooks := .later }
def FnExactParseModulatorCardSaid : Prop := Claim7.holds Tryd.pinned (.plain (OpenSpec.ofChange fnExactParseModulatorSpec)) fnExactParseModulatorCard

/-- THE TIED CARD OF 'laws.FnWritten'. -/
def fnWrittenCard : Claim7 := { stood := { row := fnWrittenRow, standIns := [], harness := (true, "ee83e3244172a01b3e30564c258e068cce6e6ea233917a0aea5f5c041fb14071"), looks := false }, kinds := [], alts := [], laidByText := true, laidKinds := [.data, .pinned], laidTests := true, laidLooks := .later }
def FnWrittenCardSaid : Prop := Claim7.holds Tryd.pinned (.plain (OpenSpec.ofChange fnWrittenSpec)) fnWrittenCard

/-- THE SECOND FORM's CARD OF 'laws.FnExactParseSequence'. -/
def fnExactParseSequenceUptoCard : Claim7 := { stood := { row := fnExactParseSequenceUptoRow, standIns := [], harness := (true, "ee83e3244172a01b3e30564c258e068cce6e6ea233917a0aea5f5c041fb14071"), looks := false }, kinds := [], alts := [], laidByText := true, laidKinds := [.data, .pinned], laidTests := true, laidLooks := .later }
def FnExactParseSequenceUptoCardSaid : Prop := Claim7.holds Tryd.pinned (.plain (OpenSpec.upto fnExactParseSequenceSpec)) fnExactParseSequenceUptoCard

/-- THE SECOND FORM's CARD OF 'laws.FnExactParseModulator'. -/
def fnExactParseModulatorUptoCard : Claim7 := { stood := { row := fnExactParseModulatorUptoRow, standIns := [], harness := (true, "ee83e3244172a01b3e30564c258e068cce6e6ea233917a0aea5f5c041fb14071"), looks := false }, kinds := [], alts := [], laidByText := true, laidKinds := [.data, .pinned], laidTests := true, laidLooks := .later }
def FnExactParseModulatorUptoCardSaid : Prop := Claim7.holds Tryd.pinned (.plain (OpenSpec.upto fnExactParseModulatorSpec)) fnExactParseModulatorUptoCard

/-- THE SECOND FORM's CARD OF 'laws.FnWritten'. -/
def fnWrittenUptoCard : Claim7 := { stood := { row := fnWrittenUptoRow, standIns := [], harness := (true, "ee83e3244172a01b3e30564c258e068cce6e6ea233917a0aea5f5c041fb14071"), looks := false }, kinds := [], alts := [], laidByText := true, laidKinds := [.data, .pinned], laidTests := true, laidLooks := .later }
def FnWrittenUptoCardSaid : Prop := Claim7.holds Tryd.pinned (.plain (OpenSpec.upto fnWrittenSpec)) fnWrittenUptoCard
end Rows
end Go.Proofs.YtdmoceooijbajaaDoor
