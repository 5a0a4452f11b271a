/-
  DERIVED. GIVEN WITH THE SEED: THE CARDS: each row of YtpnihgcckbaigaaGreatDoorRows.lean that lists a variable, with what it lists TIED to the program's text (the seventh form; the later family's looks); each row that meets fmt, with fmt's text TOLD by the authors' own Lean function (tested against real Go, not proved from fmt's source: count such statements apart). THE CARD IS WHAT COUNTS. Prove the row's statement (the work); the ties are given (YtpnihgcckbaigaaGreatDoorTie.lean); close each card by the builder's one call (the guide's Derived/Test/ToyasCard.lean, 'card_holds'). Laid BY PROGRAM, IN A SANDBOX (cutbox-door.mjs). By AI agents, Wed Nov 11 2026. No macro, syntax, notation, axiom, sorry.
-/
import Derived.Test.YtpnihgcckbaigaaGreatDoorRows
import GoSem.ClaimSeven
namespace Go.Proofs.YtpnihgcckbaigaaGreatDoor
namespace Rows

/-- THE TIED CARD OF 'laws.FnExactCanonicalFormula'. -/
def fnExactCanonicalFormulaCard : Claim7 := { stood := { row := fnExactCanonicalFormulaRow, standIns := [], harness := (true, "5e24ddd2746d532b32e21bbc39be9db5884de9bd1f5a324c245a1770b5b0398b"), looks := true }, kinds := [], alts := [], laidByText := true, laidKinds := [.data, .data, .data, .data, .sentinel, .sentinel, .pinned], laidTests := true, laidLooks := .later }
def FnExactCanonicalFormulaCardSaid : Prop := Claim7.holds Tryz.pinned (.plain (OpenSpec.ofChange fnExactCanonicalFormulaSpec)) fnExactCanonicalFormulaCard

/-- THE SECOND FORM's CARD OF 'laws.FnExactCanonicalFormula'. -/
def fnExactCanonicalFormulaUptoCard : Claim7 := { stood := { row := fnExactCanonicalFormulaUptoRow, standIns := [], harness := (true, "5e24ddd2746d532b32e21bbc39be9db5884de9bd1f5a324c245a1770b5b0398b"), looks := true }, kinds := [], alts := [], laidByText := true, laidKinds := [.data, .data, .data, .data, .sentinel, .sentinel, .pinned], laidTests := true, laidLooks := .later }
def FnExactCanonicalFormulaUptoCardSaid : Prop := Claim7.holds Tryz.pinned (.plain (OpenSpec.upto fnExactCanonicalFormulaSpec)) fnExactCanonicalFormulaUptoCard
end Rows
end Go.Proofs.YtpnihgcckbaigaaGreatDoor
