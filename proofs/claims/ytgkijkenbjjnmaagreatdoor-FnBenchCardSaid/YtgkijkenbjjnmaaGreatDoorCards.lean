/-
  DERIVED. GIVEN WITH THE SEED: THE CARDS: each row of YtgkijkenbjjnmaaGreatDoorRows.lean that lists a variable, with what it lists TIED to the program's text (the seventh form; the later family's looks); each row that meets fmt, with fmt's text TOLD by the authors' own Lean function (tested against real Go, not proved from fmt's source: count such statements apart). THE CARD IS WHAT COUNTS. Prove the row's statement (the work); the ties are given (YtgkijkenbjjnmaaGreatDoorTie.lean); close each card by the builder's one call (the guide's Derived/Test/ToyasCard.lean, 'card_holds'). Laid BY PROGRAM, IN A SANDBOX (cutbox-door.mjs). By AI agents, Wed Nov 11 2026. No macro, syntax, notation, axiom, sorry.
-/
import Derived.Test.YtgkijkenbjjnmaaGreatDoorRows
import GoSem.ClaimSeven
namespace Go.Proofs.YtgkijkenbjjnmaaGreatDoor
namespace Rows

/-- THE TIED CARD OF 'laws.FnBench'. -/
def fnBenchCard : Claim7 := { stood := { row := fnBenchRow, standIns := [], harness := (true, "1e1d051e5047a546fec0260843cf2203a02e44aa68992d1d67ab16c862c3e664"), looks := false }, kinds := [], alts := [], laidByText := true, laidKinds := [.data, .pinned], laidTests := true, laidLooks := .later }
def FnBenchCardSaid : Prop := Claim7.holds Tryz.pinned (.plain (OpenSpec.ofChange fnBenchSpec)) fnBenchCard

/-- THE TIED CARD OF 'laws.FnBenchKeeps'. -/
def fnBenchKeepsCard : Claim7 := { stood := { row := fnBenchKeepsRow, standIns := [], harness := (true, "1e1d051e5047a546fec0260843cf2203a02e44aa68992d1d67ab16c862c3e664"), looks := false }, kinds := [], alts := [], laidByText := true, laidKinds := [.data, .pinned], laidTests := true, laidLooks := .later }
def FnBenchKeepsCardSaid : Prop := Claim7.holds Tryz.pinned (.plain (OpenSpec.ofChange fnBenchKeepsSpec)) fnBenchKeepsCard

/-- THE TIED CARD OF 'laws.FnExactRunBench'. -/
def fnExactRunBenchCard : Claim7 := { stood := { row := fnExactRunBenchRow, standIns := [], harness := (true, "1e1d051e5047a546fec0260843cf2203a02e44aa68992d1d67ab16c862c3e664"), looks := false }, kinds := [], alts := [], laidByText := true, laidKinds := [.data, .pinned], laidTests := true, laidLooks := .later }
def FnExactRunBenchCardSaid : Prop := Claim7.holds Tryz.pinned (.plain (OpenSpec.ofChange fnExactRunBenchSpec)) fnExactRunBenchCard

/-- THE TIED CARD OF 'laws.FnExactExecuteLine'. -/
def fnExactExecuteLineCard : Claim7 := { stood := { row := fnExactExecuteLineRow, standIns := [], harness := (true, "1e1d051e5047a546fec0260843cf2203a02e44aa68992d1d67ab16c862c3e664"), looks := false }, kinds := [], alts := [], laidByText := true, laidKinds := [.data, .pinned], laidTests := true, laidLooks := .later }
def FnExactExecuteLineCardSaid : Prop := Claim7.holds Tryz.pinned (.plain (OpenSpec.ofChange fnExactExecuteLineSpec)) fnExactExecuteLineCard

/-- THE SECOND FORM's CARD OF 'laws.FnBench'. -/
def fnBenchUptoCard : Claim7 := { stood := { row := fnBenchUptoRow, standIns := [], harness := (true, "1e1d051e5047a546fec0260843cf2203a02e44aa68992d1d67ab16c862c3e664"), looks := false }, kinds := [], alts := [], laidByText := true, laidKinds := [.data, .pinned], laidTests := true, laidLooks := .later }
def FnBenchUptoCardSaid : Prop := Claim7.holds Tryz.pinned (.plain (OpenSpec.upto fnBenchSpec)) fnBenchUptoCard

/-- THE SECOND FORM's CARD OF 'laws.FnBenchKeeps'. -/
def fnBenchKeepsUptoCard : Claim7 := { stood := { row := fnBenchKeepsUptoRow, standIns := [], harness := (true, "1e1d051e5047a546fec0260843cf2203a02e44aa68992d1d67ab16c862c3e664"), looks := false }, kinds := [], alts := [], laidByText := true, laidKinds := [.data, .pinned], laidTests := true, laidLooks := .later }
def FnBenchKeepsUptoCardSaid : Prop := Claim7.holds Tryz.pinned (.plain (OpenSpec.upto fnBenchKeepsSpec)) fnBenchKeepsUptoCard

/-- THE SECOND FORM's CARD OF 'laws.FnExactRunBench'. -/
def fnExactRunBenchUptoCard : Claim7 := { stood := { row := fnExactRunBenchUptoRow, standIns := [], harness := (true, "1e1d051e5047a546fec0260843cf2203a02e44aa68992d1d67ab16c862c3e664"), looks := false }, kinds := [], alts := [], laidByText := true, laidKinds := [.data, .pinned], laidTests := true, laidLooks := .later }
def FnExactRunBenchUptoCardSaid : Prop := Claim7.holds Tryz.pinned (.plain (OpenSpec.upto fnExactRunBenchSpec)) fnExactRunBenchUptoCard

/-- THE SECOND FORM's CARD OF 'laws.FnExactExecuteLine'. -/
def fnExactExecuteLineUptoCard : Claim7 := { stood := { row := fnExactExecuteLineUptoRow, standIns := [], harness := (true, "1e1d051e5047a546fec0260843cf2203a02e44aa68992d1d67ab16c862c3e664"), looks := false }, kinds := [], alts := [], laidByText := true, laidKinds := [.data, .pinned], laidTests := true, laidLooks := .later }
def FnExactExecuteLineUptoCardSaid : Prop := Claim7.holds Tryz.pinned (.plain (OpenSpec.upto fnExactExecuteLineSpec)) fnExactExecuteLineUptoCard
end Rows
end Go.Proofs.YtgkijkenbjjnmaaGreatDoor
