/-
  DERIVED. GIVEN WITH THE SEED: THE CARDS: each row of YtbhkpnhlegiilaaGreatDoorRows.lean that lists a variable, with what it lists TIED to the program's text (the seventh form; the later family's looks); each row that meets fmt, with fmt's text TOLD by the authors' own Lean function (tested against real Go, not proved from fmt's source: count such statements apart). THE CARD IS WHAT COUNTS. Prove the row's statement (the work); the ties are given (YtbhkpnhlegiilaaGreatDoorTie.lean); close each card by the builder's one call (the guide's Derived/Test/ToyasCard.lean, 'card_holds'). Laid BY PROGRAM, IN A SANDBOX (cutbox-door.mjs). By AI agents, Wed Nov 11 2026. No macro, syntax, notation, axiom, sorry.
-/
import Derived.Test.YtbhkpnhlegiilaaGreatDoorRows
import GoSem.ClaimSeven
namespace Go.Proofs.YtbhkpnhlegiilaaGreatDoor
namespace Rows

/-- THE TIED CARD OF 'laws.FnExactInvariantly'. -/
def fnExactInvariantlyCard : Claim7 := { stood := { row := fnExactInvariantlyRow, standIns := [], harness := (true, "9e747f73040a304f87ca14c0d75491b3a4210c21fc6249042e1e85e37847c843"), looks := true }, kinds := [], alts := [], laidByText := true, laidKinds := [.data, .data, .data, .data, .sentinel, .sentinel, .pinned], laidTests := true, laidLooks := .later }
def FnExactInvariantlyCardSaid : Prop := Claim7.holds Tryz.pinned (.plain (OpenSpec.ofChange fnExactInvariantlySpec)) fnExactInvariantlyCard

/-- THE TIED CARD OF 'laws.FnExactPossibly'. -/
def fnExactPossiblyCard : Claim7 := { stood := { row := fnExactPossiblyRow, standIns := [], harness := (true, "9e747f73040a304f87ca14c0d75491b3a4210c21fc6249042e1e85e37847c843"), looks := true }, kinds := [], alts := [], laidByText := true, laidKinds := [.data, .data, .data, .data, .sentinel, .sentinel, .pinned], laidTests := true, laidLooks := .later }
def FnExactPossiblyCardSaid : Prop := Claim7.holds Tryz.pinned (.plain (OpenSpec.ofChange fnExactPossiblySpec)) fnExactPossiblyCard

/-- THE TIED CARD OF 'laws.FnExactDualFormula'. -/
def fnExactDualFormulaCard : Claim7 := { stood := { row := fnExactDualFormulaRow, standIns := [], harness := (true, "9e747f73040a304f87ca14c0d75491b3a4210c21fc6249042e1e85e37847c843"), looks := true }, kinds := [], alts := [], laidByText := true, laidKinds := [.data, .data, .data, .data, .sentinel, .sentinel, .pinned], laidTests := true, laidLooks := .later }
def FnExactDualFormulaCardSaid : Prop := Claim7.holds Tryz.pinned (.plain (OpenSpec.ofChange fnExactDualFormulaSpec)) fnExactDualFormulaCard

/-- THE TIED CARD OF 'laws.FnExactApproximantOf'. -/
def fnExactApproximantOfCard : Claim7 := { stood := { row := fnExactApproximantOfRow, standIns := [], harness := (true, "9e747f73040a304f87ca14c0d75491b3a4210c21fc6249042e1e85e37847c843"), looks := true }, kinds := [], alts := [], laidByText := true, laidKinds := [.data, .data, .data, .data, .sentinel, .sentinel, .pinned], laidTests := true, laidLooks := .later }
def FnExactApproximantOfCardSaid : Prop := Claim7.holds Tryz.pinned (.plain (OpenSpec.ofChange fnExactApproximantOfSpec)) fnExactApproximantOfCard

/-- THE SECOND FORM's CARD OF 'laws.FnExactInvariantly'. -/
def fnExactInvariantlyUptoCard : Claim7 := { stood := { row := fnExactInvariantlyUptoRow, standIns := [], harness := (true, "9e747f73040a304f87ca14c0d75491b3a4210c21fc6249042e1e85e37847c843"), looks := true }, kinds := [], alts := [], laidByText := true, laidKinds := [.data, .data, .data, .data, .sentinel, .sentinel, .pinned], laidTests := true, laidLooks := .later }
def FnExactInvariantlyUptoCardSaid : Prop := Claim7.holds Tryz.pinned (.plain (OpenSpec.upto fnExactInvariantlySpec)) fnExactInvariantlyUptoCard

/-- THE SECOND FORM's CARD OF 'laws.FnExactPossibly'. -/
def fnExactPossiblyUptoCard : Claim7 := { stood := { row := fnExactPossiblyUptoRow, standIns := [], harness := (true, "9e747f73040a304f87ca14c0d75491b3a4210c21fc6249042e1e85e37847c843"), looks := true }, kinds := [], alts := [], laidByText := true, laidKinds := [.data, .data, .data, .data, .sentinel, .sentinel, .pinned], laidTests := true, laidLooks := .later }
def FnExactPossiblyUptoCardSaid : Prop := Claim7.holds Tryz.pinned (.plain (OpenSpec.upto fnExactPossiblySpec)) fnExactPossiblyUptoCard

/-- THE SECOND FORM's CARD OF 'laws.FnExactDualFormula'. -/
def fnExactDualFormulaUptoCard : Claim7 := { stood := { row := fnExactDualFormulaUptoRow, standIns := [], harness := (true, "9e747f73040a304f87ca14c0d75491b3a4210c21fc6249042e1e85e37847c843"), looks := true }, kinds := [], alts := [], laidByText := true, laidKinds := [.data, .data, .data, .data, .sentinel, .sentinel, .pinned], laidTests := true, laidLooks := .later }
def FnExactDualFormulaUptoCardSaid : Prop := Claim7.holds Tryz.pinned (.plain (OpenSpec.upto fnExactDualFormulaSpec)) fnExactDualFormulaUptoCard

/-- THE SECOND FORM's CARD OF 'laws.FnExactApproximantOf'. -/
def fnExactApproximantOfUptoCard : Claim7 := { stood := { row := fnExactApproximantOfUptoRow, standIns := [], harness := (true, "9e747f73040a304f87ca14c0d75491b3a4210c21fc6249042e1e85e37847c843"), looks := true }, kinds := [], alts := [], laidByText := true, laidKinds := [.data, .data, .data, .data, .sentinel, .sentinel, .pinned], laidTests := true, laidLooks := .later }
def FnExactApproximantOfUptoCardSaid : Prop := Claim7.holds Tryz.pinned (.plain (OpenSpec.upto fnExactApproximantOfSpec)) fnExactApproximantOfUptoCard
end Rows
end Go.Proofs.YtbhkpnhlegiilaaGreatDoor
