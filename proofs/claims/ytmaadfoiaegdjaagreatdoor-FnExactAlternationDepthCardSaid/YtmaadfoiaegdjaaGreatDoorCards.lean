/-
  DERIVED. GIVEN WITH THE SEED: THE CARDS: each row of YtmaadfoiaegdjaaGreatDoorRows.lean that lists a variable, with what it lists TIED to the program's text (the seventh form; the later family's looks); each row that meets fmt, with fmt's text TOLD by the authors' own Lean function (tested against real Go, not proved from fmt's source: count such statements apart). THE CARD IS WHAT COUNTS. Prove the row's statement (the work); the ties are given (YtmaadfoiaegdjaaGreatDoorTie.lean); close each card by the builder's one call (the guide's Derived/Test/ToyasCard.lean, 'card_holds'). Laid BY PROGRAM, IN A SANDBOX (cutbox-door.mjs). By AI agents, Wed Nov 11 2026. No macro, syntax, notation, axiom, sorry.
-/
import Derived.Test.YtmaadfoiaegdjaaGreatDoorRows
import GoSem.ClaimSeven
namespace Go.Proofs.YtmaadfoiaegdjaaGreatDoor
namespace Rows

/-- THE TIED CARD OF 'laws.FnExactMatchesLabel'. -/
def fnExactMatchesLabelCard : Claim7 := { stood := { row := fnExactMatchesLabelRow, standIns := [], harness := (true, "be9b4f337f9e874047e05bc65a13084b236cf71ac9efcd77deafa795c93b081e"), looks := true }, kinds := [], alts := [], laidByText := true, laidKinds := [.data, .data, .data, .data, .sentinel, .sentinel, .pinned], laidTests := true, laidLooks := .later }
def FnExactMatchesLabelCardSaid : Prop := Claim7.holds Tryz.pinned (.plain (OpenSpec.ofChange fnExactMatchesLabelSpec)) fnExactMatchesLabelCard

/-- THE TIED CARD OF 'laws.FnExactValidRegular'. -/
def fnExactValidRegularCard : Claim7 := { stood := { row := fnExactValidRegularRow, standIns := [], harness := (true, "be9b4f337f9e874047e05bc65a13084b236cf71ac9efcd77deafa795c93b081e"), looks := true }, kinds := [], alts := [], laidByText := true, laidKinds := [.data, .data, .data, .data, .sentinel, .sentinel, .pinned], laidTests := true, laidLooks := .later }
def FnExactValidRegularCardSaid : Prop := Claim7.holds Tryz.pinned (.plain (OpenSpec.ofChange fnExactValidRegularSpec)) fnExactValidRegularCard

/-- THE TIED CARD OF 'laws.FnExactValidModal'. -/
def fnExactValidModalCard : Claim7 := { stood := { row := fnExactValidModalRow, standIns := [], harness := (true, "be9b4f337f9e874047e05bc65a13084b236cf71ac9efcd77deafa795c93b081e"), looks := true }, kinds := [], alts := [], laidByText := true, laidKinds := [.data, .data, .data, .data, .sentinel, .sentinel, .pinned], laidTests := true, laidLooks := .later }
def FnExactValidModalCardSaid : Prop := Claim7.holds Tryz.pinned (.plain (OpenSpec.ofChange fnExactValidModalSpec)) fnExactValidModalCard

/-- THE TIED CARD OF 'laws.FnExactAcceptsEmpty'. -/
def fnExactAcceptsEmptyCard : Claim7 := { stood := { row := fnExactAcceptsEmptyRow, standIns := [], harness := (true, "be9b4f337f9e874047e05bc65a13084b236cf71ac9efcd77deafa795c93b081e"), looks := true }, kinds := [], alts := [], laidByText := true, laidKinds := [.data, .data, .data, .data, .sentinel, .sentinel, .pinned], laidTests := true, laidLooks := .later }
def FnExactAcceptsEmptyCardSaid : Prop := Claim7.holds Tryz.pinned (.plain (OpenSpec.ofChange fnExactAcceptsEmptySpec)) fnExactAcceptsEmptyCard

/-- THE TIED CARD OF 'laws.FnExactValidFormula'. -/
def fnExactValidFormulaCard : Claim7 := { stood := { row := fnExactValidFormulaRow, standIns := [], harness := (true, "be9b4f337f9e874047e05bc65a13084b236cf71ac9efcd77deafa795c93b081e"), looks := true }, kinds := [], alts := [], laidByText := true, laidKinds := [.data, .data, .data, .data, .sentinel, .sentinel, .pinned], laidTests := true, laidLooks := .later }
def FnExactValidFormulaCardSaid : Prop := Claim7.holds Tryz.pinned (.plain (OpenSpec.ofChange fnExactValidFormulaSpec)) fnExactValidFormulaCard

/-- THE TIED CARD OF 'laws.FnExactModalDepth'. -/
def fnExactModalDepthCard : Claim7 := { stood := { row := fnExactModalDepthRow, standIns := [], harness := (true, "be9b4f337f9e874047e05bc65a13084b236cf71ac9efcd77deafa795c93b081e"), looks := true }, kinds := [], alts := [], laidByText := true, laidKinds := [.data, .data, .data, .data, .sentinel, .sentinel, .pinned], laidTests := true, laidLooks := .later }
def FnExactModalDepthCardSaid : Prop := Claim7.holds Tryz.pinned (.plain (OpenSpec.ofChange fnExactModalDepthSpec)) fnExactModalDepthCard

/-- THE TIED CARD OF 'laws.FnExactReverseRegular'. -/
def fnExactReverseRegularCard : Claim7 := { stood := { row := fnExactReverseRegularRow, standIns := [], harness := (true, "be9b4f337f9e874047e05bc65a13084b236cf71ac9efcd77deafa795c93b081e"), looks := true }, kinds := [], alts := [], laidByText := true, laidKinds := [.data, .data, .data, .data, .sentinel, .sentinel, .pinned], laidTests := true, laidLooks := .later }
def FnExactReverseRegularCardSaid : Prop := Claim7.holds Tryz.pinned (.plain (OpenSpec.ofChange fnExactReverseRegularSpec)) fnExactReverseRegularCard

/-- THE TIED CARD OF 'laws.FnExactIsGuarded'. -/
def fnExactIsGuardedCard : Claim7 := { stood := { row := fnExactIsGuardedRow, standIns := [], harness := (true, "be9b4f337f9e874047e05bc65a13084b236cf71ac9efcd77deafa795c93b081e"), looks := true }, kinds := [], alts := [], laidByText := true, laidKinds := [.data, .data, .data, .data, .sentinel, .sentinel, .pinned], laidTests := true, laidLooks := .later }
def FnExactIsGuardedCardSaid : Prop := Claim7.holds Tryz.pinned (.plain (OpenSpec.ofChange fnExactIsGuardedSpec)) fnExactIsGuardedCard

/-- THE TIED CARD OF 'laws.FnExactDualModal'. -/
def fnExactDualModalCard : Claim7 := { stood := { row := fnExactDualModalRow, standIns := [], harness := (true, "be9b4f337f9e874047e05bc65a13084b236cf71ac9efcd77deafa795c93b081e"), looks := true }, kinds := [], alts := [], laidByText := true, laidKinds := [.data, .data, .data, .data, .sentinel, .sentinel, .pinned], laidTests := true, laidLooks := .later }
def FnExactDualModalCardSaid : Prop := Claim7.holds Tryz.pinned (.plain (OpenSpec.ofChange fnExactDualModalSpec)) fnExactDualModalCard

/-- THE TIED CARD OF 'laws.FnExactAlternationDepth'. -/
def fnExactAlternationDepthCard : Claim7 := { stood := { row := fnExactAlternationDepthRow, standIns := [], harness := (true, "be9b4f337f9e874047e05bc65a13084b236cf71ac9efcd77deafa795c93b081e"), looks := true }, kinds := [], alts := [], laidByText := true, laidKinds := [.data, .data, .data, .data, .sentinel, .sentinel, .pinned], laidTests := true, laidLooks := .later }
def FnExactAlternationDepthCardSaid : Prop := Claim7.holds Tryz.pinned (.plain (OpenSpec.ofChange fnExactAlternationDepthSpec)) fnExactAlternationDepthCard

/-- THE TIED CARD OF 'laws.FnExactUnfoldFormula'. -/
def fnExactUnfoldFormulaCard : Claim7 := { stood := { row := fnExactUnfoldFormulaRow, standIns := [], harness := (true, "be9b4f337f9e874047e05bc65a13084b236cf71ac9efcd77deafa795c93b081e"), looks := true }, kinds := [], alts := [], laidByText := true, laidKinds := [.data, .data, .data, .data, .sentinel, .sentinel, .pinned], laidTests := true, laidLooks := .later }
def FnExactUnfoldFormulaCardSaid : Prop := Claim7.holds Tryz.pinned (.plain (OpenSpec.ofChange fnExactUnfoldFormulaSpec)) fnExactUnfoldFormulaCard

/-- THE TIED CARD OF 'laws.FnExactInevitably'. -/
def fnExactInevitablyCard : Claim7 := { stood := { row := fnExactInevitablyRow, standIns := [], harness := (true, "be9b4f337f9e874047e05bc65a13084b236cf71ac9efcd77deafa795c93b081e"), looks := true }, kinds := [], alts := [], laidByText := true, laidKinds := [.data, .data, .data, .data, .sentinel, .sentinel, .pinned], laidTests := true, laidLooks := .later }
def FnExactInevitablyCardSaid : Prop := Claim7.holds Tryz.pinned (.plain (OpenSpec.ofChange fnExactInevitablySpec)) fnExactInevitablyCard

/-- THE SECOND FORM's CARD OF 'laws.FnExactMatchesLabel'. -/
def fnExactMatchesLabelUptoCard : Claim7 := { stood := { row := fnExactMatchesLabelUptoRow, standIns := [], harness := (true, "be9b4f337f9e874047e05bc65a13084b236cf71ac9efcd77deafa795c93b081e"), looks := true }, kinds := [], alts := [], laidByText := true, laidKinds := [.data, .data, .data, .data, .sentinel, .sentinel, .pinned], laidTests := true, laidLooks := .later }
def FnExactMatchesLabelUptoCardSaid : Prop := Claim7.holds Tryz.pinned (.plain (OpenSpec.upto fnExactMatchesLabelSpec)) fnExactMatchesLabelUptoCard

/-- THE SECOND FORM's CARD OF 'laws.FnExactValidRegular'. -/
def fnExactValidRegularUptoCard : Claim7 := { stood := { row := fnExactValidRegularUptoRow, standIns := [], harness := (true, "be9b4f337f9e874047e05bc65a13084b236cf71ac9efcd77deafa795c93b081e"), looks := true }, kinds := [], alts := [], laidByText := true, laidKinds := [.data, .data, .data, .data, .sentinel, .sentinel, .pinned], laidTests := true, laidLooks := .later }
def FnExactValidRegularUptoCardSaid : Prop := Claim7.holds Tryz.pinned (.plain (OpenSpec.upto fnExactValidRegularSpec)) fnExactValidRegularUptoCard

/-- THE SECOND FORM's CARD OF 'laws.FnExactValidModal'. -/
def fnExactValidModalUptoCard : Claim7 := { stood := { row := fnExactValidModalUptoRow, standIns := [], harness := (true, "be9b4f337f9e874047e05bc65a13084b236cf71ac9efcd77deafa795c93b081e"), looks := true }, kinds := [], alts := [], laidByText := true, laidKinds := [.data, .data, .data, .data, .sentinel, .sentinel, .pinned], laidTests := true, laidLooks := .later }
def FnExactValidModalUptoCardSaid : Prop := Claim7.holds Tryz.pinned (.plain (OpenSpec.upto fnExactValidModalSpec)) fnExactValidModalUptoCard

/-- THE SECOND FORM's CARD OF 'laws.FnExactAcceptsEmpty'. -/
def fnExactAcceptsEmptyUptoCard : Claim7 := { stood := { row := fnExactAcceptsEmptyUptoRow, standIns := [], harness := (true, "be9b4f337f9e874047e05bc65a13084b236cf71ac9efcd77deafa795c93b081e"), looks := true }, kinds := [], alts := [], laidByText := true, laidKinds := [.data, .data, .data, .data, .sentinel, .sentinel, .pinned], laidTests := true, laidLooks := .later }
def FnExactAcceptsEmptyUptoCardSaid : Prop := Claim7.holds Tryz.pinned (.plain (OpenSpec.upto fnExactAcceptsEmptySpec)) fnExactAcceptsEmptyUptoCard

/-- THE SECOND FORM's CARD OF 'laws.FnExactValidFormula'. -/
def fnExactValidFormulaUptoCard : Claim7 := { stood := { row := fnExactValidFormulaUptoRow, standIns := [], harness := (true, "be9b4f337f9e874047e05bc65a13084b236cf71ac9efcd77deafa795c93b081e"), looks := true }, kinds := [], alts := [], laidByText := true, laidKinds := [.data, .data, .data, .data, .sentinel, .sentinel, .pinned], laidTests := true, laidLooks := .later }
def FnExactValidFormulaUptoCardSaid : Prop := Claim7.holds Tryz.pinned (.plain (OpenSpec.upto fnExactValidFormulaSpec)) fnExactValidFormulaUptoCard

/-- THE SECOND FORM's CARD OF 'laws.FnExactModalDepth'. -/
def fnExactModalDepthUptoCard : Claim7 := { stood := { row := fnExactModalDepthUptoRow, standIns := [], harness := (true, "be9b4f337f9e874047e05bc65a13084b236cf71ac9efcd77deafa795c93b081e"), looks := true }, kinds := [], alts := [], laidByText := true, laidKinds := [.data, .data, .data, .data, .sentinel, .sentinel, .pinned], laidTests := true, laidLooks := .later }
def FnExactModalDepthUptoCardSaid : Prop := Claim7.holds Tryz.pinned (.plain (OpenSpec.upto fnExactModalDepthSpec)) fnExactModalDepthUptoCard

/-- THE SECOND FORM's CARD OF 'laws.FnExactReverseRegular'. -/
def fnExactReverseRegularUptoCard : Claim7 := { stood := { row := fnExactReverseRegularUptoRow, standIns := [], harness := (true, "be9b4f337f9e874047e05bc65a13084b236cf71ac9efcd77deafa795c93b081e"), looks := true }, kinds := [], alts := [], laidByText := true, laidKinds := [.data, .data, .data, .data, .sentinel, .sentinel, .pinned], laidTests := true, laidLooks := .later }
def FnExactReverseRegularUptoCardSaid : Prop := Claim7.holds Tryz.pinned (.plain (OpenSpec.upto fnExactReverseRegularSpec)) fnExactReverseRegularUptoCard

/-- THE SECOND FORM's CARD OF 'laws.FnExactIsGuarded'. -/
def fnExactIsGuardedUptoCard : Claim7 := { stood := { row := fnExactIsGuardedUptoRow, standIns := [], harness := (true, "be9b4f337f9e874047e05bc65a13084b236cf71ac9efcd77deafa795c93b081e"), looks := true }, kinds := [], alts := [], laidByText := true, laidKinds := [.data, .data, .data, .data, .sentinel, .sentinel, .pinned], laidTests := true, laidLooks := .later }
def FnExactIsGuardedUptoCardSaid : Prop := Claim7.holds Tryz.pinned (.plain (OpenSpec.upto fnExactIsGuardedSpec)) fnExactIsGuardedUptoCard

/-- THE SECOND FORM's CARD OF 'laws.FnExactDualModal'. -/
def fnExactDualModalUptoCard : Claim7 := { stood := { row := fnExactDualModalUptoRow, standIns := [], harness := (true, "be9b4f337f9e874047e05bc65a13084b236cf71ac9efcd77deafa795c93b081e"), looks := true }, kinds := [], alts := [], laidByText := true, laidKinds := [.data, .data, .data, .data, .sentinel, .sentinel, .pinned], laidTests := true, laidLooks := .later }
def FnExactDualModalUptoCardSaid : Prop := Claim7.holds Tryz.pinned (.plain (OpenSpec.upto fnExactDualModalSpec)) fnExactDualModalUptoCard

/-- THE SECOND FORM's CARD OF 'laws.FnExactAlternationDepth'. -/
def fnExactAlternationDepthUptoCard : Claim7 := { stood := { row := fnExactAlternationDepthUptoRow, standIns := [], harness := (true, "be9b4f337f9e874047e05bc65a13084b236cf71ac9efcd77deafa795c93b081e"), looks := true }, kinds := [], alts := [], laidByText := true, laidKinds := [.data, .data, .data, .data, .sentinel, .sentinel, .pinned], laidTests := true, laidLooks := .later }
def FnExactAlternationDepthUptoCardSaid : Prop := Claim7.holds Tryz.pinned (.plain (OpenSpec.upto fnExactAlternationDepthSpec)) fnExactAlternationDepthUptoCard

/-- THE SECOND FORM's CARD OF 'laws.FnExactUnfoldFormula'. -/
def fnExactUnfoldFormulaUptoCard : Claim7 := { stood := { row := fnExactUnfoldFormulaUptoRow, standIns := [], harness := (true, "be9b4f337f9e874047e05bc65a13084b236cf71ac9efcd77deafa795c93b081e"), looks := true }, kinds := [], alts := [], laidByText := true, laidKinds := [.data, .data, .data, .data, .sentinel, .sentinel, .pinned], laidTests := true, laidLooks := .later }
def FnExactUnfoldFormulaUptoCardSaid : Prop := Claim7.holds Tryz.pinned (.plain (OpenSpec.upto fnExactUnfoldFormulaSpec)) fnExactUnfoldFormulaUptoCard

/-- THE SECOND FORM's CARD OF 'laws.FnExactInevitably'. -/
def fnExactInevitablyUptoCard : Claim7 := { stood := { row := fnExactInevitablyUptoRow, standIns := [], harness := (true, "be9b4f337f9e874047e05bc65a13084b236cf71ac9efcd77deafa795c93b081e"), looks := true }, kinds := [], alts := [], laidByText := true, laidKinds := [.data, .data, .data, .data, .sentinel, .sentinel, .pinned], laidTests := true, laidLooks := .later }
def FnExactInevitablyUptoCardSaid : Prop := Claim7.holds Tryz.pinned (.plain (OpenSpec.upto fnExactInevitablySpec)) fnExactInevitablyUptoCard
end Rows
end Go.Proofs.YtmaadfoiaegdjaaGreatDoor
