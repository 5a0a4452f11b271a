/-
  DERIVED. GIVEN WITH THE SEED: THE CARDS: each row of YtcakmchefbohoaaGreatDoorRows.lean that lists a variable, with what it lists TIED to the program's text (the seventh form; the later family's looks); each row that meets fmt, with fmt's text TOLD by the authors' own Lean function (tested against real Go, not proved from fmt's source: count such statements apart). THE CARD IS WHAT COUNTS. Prove the row's statement (the work); the ties are given (YtcakmchefbohoaaGreatDoorTie.lean); close each card by the builder's one call (the guide's Derived/Test/ToyasCard.lean, 'card_holds'). Laid BY PROGRAM, IN A SANDBOX (cutbox-door.mjs). By AI agents, Wed Nov 11 2026. No macro, syntax, notation, axiom, sorry.
-/
import Derived.Test.YtcakmchefbohoaaGreatDoorRows
import GoSem.ClaimSeven
namespace Go.Proofs.YtcakmchefbohoaaGreatDoor
namespace Rows

/-- THE TIED CARD OF 'laws.FnExactBoxRegular'. -/
def fnExactBoxRegularCard : Claim7 := { stood := { row := fnExactBoxRegularRow, standIns := [], harness := (true, "bf442dd56dd6415cc39884e7cebc607be9957e31e352df09548b20c725506203"), looks := true }, kinds := [], alts := [], laidByText := true, laidKinds := [.data, .data, .data, .data, .sentinel, .sentinel, .pinned], laidTests := true, laidLooks := .later }
def FnExactBoxRegularCardSaid : Prop := Claim7.holds Tryz.pinned (.plain (OpenSpec.ofChange fnExactBoxRegularSpec)) fnExactBoxRegularCard

/-- THE TIED CARD OF 'laws.FnExactDiamondRegular'. -/
def fnExactDiamondRegularCard : Claim7 := { stood := { row := fnExactDiamondRegularRow, standIns := [], harness := (true, "bf442dd56dd6415cc39884e7cebc607be9957e31e352df09548b20c725506203"), looks := true }, kinds := [], alts := [], laidByText := true, laidKinds := [.data, .data, .data, .data, .sentinel, .sentinel, .pinned], laidTests := true, laidLooks := .later }
def FnExactDiamondRegularCardSaid : Prop := Claim7.holds Tryz.pinned (.plain (OpenSpec.ofChange fnExactDiamondRegularSpec)) fnExactDiamondRegularCard

/-- THE TIED CARD OF 'laws.FnExactMatchesWord'. -/
def fnExactMatchesWordCard : Claim7 := { stood := { row := fnExactMatchesWordRow, standIns := [], harness := (true, "bf442dd56dd6415cc39884e7cebc607be9957e31e352df09548b20c725506203"), looks := true }, kinds := [], alts := [], laidByText := true, laidKinds := [.data, .data, .data, .data, .sentinel, .sentinel, .pinned], laidTests := true, laidLooks := .later }
def FnExactMatchesWordCardSaid : Prop := Claim7.holds Tryz.pinned (.plain (OpenSpec.ofChange fnExactMatchesWordSpec)) fnExactMatchesWordCard

/-- THE TIED CARD OF 'laws.FnExactReverseRegular'. -/
def fnExactReverseRegularCard : Claim7 := { stood := { row := fnExactReverseRegularRow, standIns := [], harness := (true, "bf442dd56dd6415cc39884e7cebc607be9957e31e352df09548b20c725506203"), looks := true }, kinds := [], alts := [], laidByText := true, laidKinds := [.data, .data, .data, .data, .sentinel, .sentinel, .pinned], laidTests := true, laidLooks := .later }
def FnExactReverseRegularCardSaid : Prop := Claim7.holds Tryz.pinned (.plain (OpenSpec.ofChange fnExactReverseRegularSpec)) fnExactReverseRegularCard

/-- THE TIED CARD OF 'laws.FnExactReadPartition'. -/
def fnExactReadPartitionCard : Claim7 := { stood := { row := fnExactReadPartitionRow, standIns := [], harness := (true, "bf442dd56dd6415cc39884e7cebc607be9957e31e352df09548b20c725506203"), looks := true }, kinds := [], alts := [], laidByText := true, laidKinds := [.data, .data, .data, .data, .sentinel, .sentinel, .pinned], laidTests := true, laidLooks := .later }
def FnExactReadPartitionCardSaid : Prop := Claim7.holds Tryz.pinned (.plain (OpenSpec.ofChange fnExactReadPartitionSpec)) fnExactReadPartitionCard

/-- THE SECOND FORM's CARD OF 'laws.FnExactBoxRegular'. -/
def fnExactBoxRegularUptoCard : Claim7 := { stood := { row := fnExactBoxRegularUptoRow, standIns := [], harness := (true, "bf442dd56dd6415cc39884e7cebc607be9957e31e352df09548b20c725506203"), looks := true }, kinds := [], alts := [], laidByText := true, laidKinds := [.data, .data, .data, .data, .sentinel, .sentinel, .pinned], laidTests := true, laidLooks := .later }
def FnExactBoxRegularUptoCardSaid : Prop := Claim7.holds Tryz.pinned (.plain (OpenSpec.upto fnExactBoxRegularSpec)) fnExactBoxRegularUptoCard

/-- THE SECOND FORM's CARD OF 'laws.FnExactDiamondRegular'. -/
def fnExactDiamondRegularUptoCard : Claim7 := { stood := { row := fnExactDiamondRegularUptoRow, standIns := [], harness := (true, "bf442dd56dd6415cc39884e7cebc607be9957e31e352df09548b20c725506203"), looks := true }, kinds := [], alts := [], laidByText := true, laidKinds := [.data, .data, .data, .data, .sentinel, .sentinel, .pinned], laidTests := true, laidLooks := .later }
def FnExactDiamondRegularUptoCardSaid : Prop := Claim7.holds Tryz.pinned (.plain (OpenSpec.upto fnExactDiamondRegularSpec)) fnExactDiamondRegularUptoCard

/-- THE SECOND FORM's CARD OF 'laws.FnExactMatchesWord'. -/
def fnExactMatchesWordUptoCard : Claim7 := { stood := { row := fnExactMatchesWordUptoRow, standIns := [], harness := (true, "bf442dd56dd6415cc39884e7cebc607be9957e31e352df09548b20c725506203"), looks := true }, kinds := [], alts := [], laidByText := true, laidKinds := [.data, .data, .data, .data, .sentinel, .sentinel, .pinned], laidTests := true, laidLooks := .later }
def FnExactMatchesWordUptoCardSaid : Prop := Claim7.holds Tryz.pinned (.plain (OpenSpec.upto fnExactMatchesWordSpec)) fnExactMatchesWordUptoCard

/-- THE SECOND FORM's CARD OF 'laws.FnExactReverseRegular'. -/
def fnExactReverseRegularUptoCard : Claim7 := { stood := { row := fnExactReverseRegularUptoRow, standIns := [], harness := (true, "bf442dd56dd6415cc39884e7cebc607be9957e31e352df09548b20c725506203"), looks := true }, kinds := [], alts := [], laidByText := true, laidKinds := [.data, .data, .data, .data, .sentinel, .sentinel, .pinned], laidTests := true, laidLooks := .later }
def FnExactReverseRegularUptoCardSaid : Prop := Claim7.holds Tryz.pinned (.plain (OpenSpec.upto fnExactReverseRegularSpec)) fnExactReverseRegularUptoCard

/-- THE SECOND FORM's CARD OF 'laws.FnExactReadPartition'. -/
def fnExactReadPartitionUptoCard : Claim7 := { stood := { row := fnExactReadPartitionUptoRow, standIns := [], harness := (true, "bf442dd56dd6415cc39884e7cebc607be9957e31e352df09548b20c725506203"), looks := true }, kinds := [], alts := [], laidByText := true, laidKinds := [.data, .data, .data, .data, .sentinel, .sentinel, .pinned], laidTests := true, laidLooks := .later }
def FnExactReadPartitionUptoCardSaid : Prop := Claim7.holds Tryz.pinned (.plain (OpenSpec.upto fnExactReadPartitionSpec)) fnExactReadPartitionUptoCard
end Rows
end Go.Proofs.YtcakmchefbohoaaGreatDoor
