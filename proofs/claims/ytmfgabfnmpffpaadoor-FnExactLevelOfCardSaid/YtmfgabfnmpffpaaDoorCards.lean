/-
  DERIVED. GIVEN WITH THE SEED: THE CARDS: each row of YtmfgabfnmpffpaaDoorRows.lean that lists a variable, with what it lists TIED to the program's text (the seventh form; the later family's looks); each row that meets fmt, with fmt's text TOLD by the authors' own Lean function (tested against real Go, not proved from fmt's source: count such statements apart). THE CARD IS WHAT COUNTS. Prove the row's statement (the work); the ties are given (YtmfgabfnmpffpaaDoorTie.lean); close each card by the builder's one call (the guide's Derived/Test/ToyasCard.lean, 'card_holds'). Laid BY PROGRAM, IN A SANDBOX (cutbox-door.mjs). By AI agents, Wed Nov 11 2026. No macro, syntax, notation, axiom, sorry.
-/
import Derived.Test.YtmfgabfnmpffpaaDoorRows
import GoSem.ClaimSeven
namespace Go.Proofs.YtmfgabfnmpffpaaDoor
namespace Rows

/-- THE TIED CARD OF 'laws.FnExactOperatorText'. -/
def fnExactOperatorTextCard : Claim7 := { stood := { row := fnExactOperatorTextRow, standIns := [], harness := (true, "4af58bc9d0aa42fb9361e9a598a3053db218e6a675b9ecc93a25a942a52836d3"), looks := false }, kinds := [], alts := [], laidByText := true, laidKinds := [.widerDeep], laidTests := true, laidLooks := .later }
def FnExactOperatorTextCardSaid : Prop := Claim7.holds Tryd.pinned (.plain (OpenSpec.ofChange fnExactOperatorTextSpec)) fnExactOperatorTextCard

/-- THE TIED CARD OF 'laws.FnExactReadOperator'. -/
def fnExactReadOperatorCard : Claim7 := { stood := { row := fnExactReadOperatorRow, standIns := [], harness := (true, "4af58bc9d0aa42fb9361e9a598a3053db218e6a675b9ecc93a25a942a52836d3"), looks := false }, kinds := [], alts := [], laidByText := true, laidKinds := [.widerDeep], laidTests := true, laidLooks := .later }
def FnExactReadOperatorCardSaid : Prop := Claim7.holds Tryd.pinned (.plain (OpenSpec.ofChange fnExactReadOperatorSpec)) fnExactReadOperatorCard

/-- THE TIED CARD OF 'laws.FnExactLevelOf'. -/
def fnExactLevelOfCard : Claim7 := { stood := { row := fnExactLevelOfRow, standIns := [], harness := (true, "4af58bc9d0aa42fb9361e9a598a3053db218e6a675b9ecc93a25a942a52836d3"), looks := false }, kinds := [], alts := [], laidByText := true, laidKinds := [.data], laidTests := true, laidLooks := .later }
def FnExactLevelOfCardSaid : Prop := Claim7.holds Tryd.pinned (.plain (OpenSpec.ofChange fnExactLevelOfSpec)) fnExactLevelOfCard

/-- THE SECOND FORM's CARD OF 'laws.FnExactOperatorText'. -/
def fnExactOperatorTextUptoCard : Claim7 := { stood := { row := fnExactOperatorTextUptoRow, standIns := [], harness := (true, "4af58bc9d0aa42fb9361e9a598a3053db218e6a675b9ecc93a25a942a52836d3"), looks := false }, kinds := [], alts := [], laidByText := true, laidKinds := [.widerDeep], laidTests := true, laidLooks := .later }
def FnExactOperatorTextUptoCardSaid : Prop := Claim7.holds Tryd.pinned (.plain (OpenSpec.upto fnExactOperatorTextSpec)) fnExactOperatorTextUptoCard

/-- THE SECOND FORM's CARD OF 'laws.FnExactReadOperator'. -/
def fnExactReadOperatorUptoCard : Claim7 := { stood := { row := fnExactReadOperatorUptoRow, standIns := [], harness := (true, "4af58bc9d0aa42fb9361e9a598a3053db218e6a675b9ecc93a25a942a52836d3"), looks := false }, kinds := [], alts := [], laidByText := true, laidKinds := [.widerDeep], laidTests := true, laidLooks := .later }
def FnExactReadOperatorUptoCardSaid : Prop := Claim7.holds Tryd.pinned (.plain (OpenSpec.upto fnExactReadOperatorSpec)) fnExactReadOperatorUptoCard

/-- THE SECOND FORM's CARD OF 'laws.FnExactLevelOf'. -/
def fnExactLevelOfUptoCard : Claim7 := { stood := { row := fnExactLevelOfUptoRow, standIns := [], harness := (true, "4af58bc9d0aa42fb9361e9a598a3053db218e6a675b9ecc93a25a942a52836d3"), looks := false }, kinds := [], alts := [], laidByText := true, laidKinds := [.data], laidTests := true, laidLooks := .later }
def FnExactLevelOfUptoCardSaid : Prop := Claim7.holds Tryd.pinned (.plain (OpenSpec.upto fnExactLevelOfSpec)) fnExactLevelOfUptoCard
end Rows
end Go.Proofs.YtmfgabfnmpffpaaDoor
