/-
  No cell of these rows narrows 'for every input' (looked for: loops, veiled, ifaces, maps, wideKeys, modest, calm, conditions, laid).
  DERIVED. THE GIVEN ROWS OF THIS SEAT. 9 by the template 'for every input the law returns true; each argument reads behind the call as it read before'; 0 by the template 'total and deterministic' (their statements: YtmfgabfnmpffpaaTotals.lean).
  GIVEN WITH THE SEED: the statements are not yours to turn. If you find one false, say at which input.
  Laid BY PROGRAM, IN A SANDBOX (cutbox-rows.mjs): the forced cells as the released guide's own fill.sh prints them over the translation 2b57f55c3c442aba… (all of the seat's roots in one cut). By AI agents, Wed Nov 11 2026. No macro, syntax, notation, axiom, sorry.
-/
import Derived.Test.YtmfgabfnmpffpaaChecked
import GoSem.Claim
import GoSem.ClaimJoined
import GoSem.ClaimMapViews
import Derived.JoinedTies
import Derived.KernelRfl
namespace Go.Proofs.Ytmfgabfnmpffpaa
/- THE CELL 'sum', in the pinned program and in every row, IS THE sha256 OF THE DUMP (.gsa) THAT YtmfgabfnmpffpaaProg.lean LOADS. Nothing in Lean hashes anything: it is a label: what it is worth is what the hold of that sum in a sandbox is worth. -/
noncomputable def Try.pinned : Pinned := { name := "ytmfgabfnmpffpaa", sum := "2b57f55c3c442aba921d4a1f9d28036491926ff14bc207525b099a6974d04656", checked := Try.checked }
namespace Rows
def none {H : Type} : Left H := { results := [], args := [] }

/-- 'laws.FnExactConstants': WHATEVER THE INPUT: true; the input reads as it did. -/
def fnExactConstantsSpec : ChangeSpec := { name := "fnExactConstants", fn := fun _ => fun
  | [] => { results := [.lit (.bool true)], args := [] }
  | _ => none }
def fnExactConstantsRow : OpenClaim := { program := "ytmfgabfnmpffpaa", sum := "2b57f55c3c442aba921d4a1f9d28036491926ff14bc207525b099a6974d04656", func := "loop.example/g01075/laws.FnExactConstants", spec := "fnExactConstants", apart := false }
def FnExactConstantsSaid : Prop := fnExactConstantsRow.holds Try.pinned (OpenSpec.ofChange fnExactConstantsSpec)

/-- ITS FALSE NEIGHBOUR: 'it returns false'. Refute it at one input. -/
def fnExactConstantsWrong : ChangeSpec := { name := "fnExactConstants", fn := fun _ => fun
  | [] => { results := [.lit (.bool false)], args := [] }
  | _ => none }
def FnExactConstantsWrongFalsely : Prop := fnExactConstantsRow.holds Try.pinned (OpenSpec.ofChange fnExactConstantsWrong)

/-- 'laws.FnExactCodeName': WHATEVER THE INPUT: true; the input reads as it did. -/
def fnExactCodeNameSpec : ChangeSpec := { name := "fnExactCodeName", fn := fun _ => fun
  | [d] => { results := [.lit (.bool true)], args := [d] }
  | _ => none }
def fnExactCodeNameRow : OpenClaim := { program := "ytmfgabfnmpffpaa", sum := "2b57f55c3c442aba921d4a1f9d28036491926ff14bc207525b099a6974d04656", func := "loop.example/g01075/laws.FnExactCodeName", spec := "fnExactCodeName", apart := false }
def FnExactCodeNameSaid : Prop := fnExactCodeNameRow.holds Try.pinned (OpenSpec.ofChange fnExactCodeNameSpec)

/-- ITS FALSE NEIGHBOUR: 'it returns false'. Refute it at one input. -/
def fnExactCodeNameWrong : ChangeSpec := { name := "fnExactCodeName", fn := fun _ => fun
  | [d] => { results := [.lit (.bool false)], args := [d] }
  | _ => none }
def FnExactCodeNameWrongFalsely : Prop := fnExactCodeNameRow.holds Try.pinned (OpenSpec.ofChange fnExactCodeNameWrong)

/-- 'laws.FnExactIsName': WHATEVER THE INPUT: true; the input reads as it did. -/
def fnExactIsNameSpec : ChangeSpec := { name := "fnExactIsName", fn := fun _ => fun
  | [d] => { results := [.lit (.bool true)], args := [d] }
  | _ => none }
def fnExactIsNameRow : OpenClaim := { program := "ytmfgabfnmpffpaa", sum := "2b57f55c3c442aba921d4a1f9d28036491926ff14bc207525b099a6974d04656", func := "loop.example/g01075/laws.FnExactIsName", spec := "fnExactIsName", apart := false }
def FnExactIsNameSaid : Prop := fnExactIsNameRow.holds Try.pinned (OpenSpec.ofChange fnExactIsNameSpec)

/-- ITS FALSE NEIGHBOUR: 'it returns false'. Refute it at one input. -/
def fnExactIsNameWrong : ChangeSpec := { name := "fnExactIsName", fn := fun _ => fun
  | [d] => { results := [.lit (.bool false)], args := [d] }
  | _ => none }
def FnExactIsNameWrongFalsely : Prop := fnExactIsNameRow.holds Try.pinned (OpenSpec.ofChange fnExactIsNameWrong)

/-- 'laws.FnExactIsAction': WHATEVER THE INPUT: true; the input reads as it did. -/
def fnExactIsActionSpec : ChangeSpec := { name := "fnExactIsAction", fn := fun _ => fun
  | [d] => { results := [.lit (.bool true)], args := [d] }
  | _ => none }
def fnExactIsActionRow : OpenClaim := { program := "ytmfgabfnmpffpaa", sum := "2b57f55c3c442aba921d4a1f9d28036491926ff14bc207525b099a6974d04656", func := "loop.example/g01075/laws.FnExactIsAction", spec := "fnExactIsAction", apart := false }
def FnExactIsActionSaid : Prop := fnExactIsActionRow.holds Try.pinned (OpenSpec.ofChange fnExactIsActionSpec)

/-- ITS FALSE NEIGHBOUR: 'it returns false'. Refute it at one input. -/
def fnExactIsActionWrong : ChangeSpec := { name := "fnExactIsAction", fn := fun _ => fun
  | [d] => { results := [.lit (.bool false)], args := [d] }
  | _ => none }
def FnExactIsActionWrongFalsely : Prop := fnExactIsActionRow.holds Try.pinned (OpenSpec.ofChange fnExactIsActionWrong)

/-- 'laws.FnExactCrc16': WHATEVER THE INPUT: true; the input reads as it did. -/
def fnExactCrc16Spec : ChangeSpec := { name := "fnExactCrc16", fn := fun _ => fun
  | [d1, d2] => { results := [.lit (.bool true)], args := [d1, d2] }
  | _ => none }
def fnExactCrc16Row : OpenClaim := { program := "ytmfgabfnmpffpaa", sum := "2b57f55c3c442aba921d4a1f9d28036491926ff14bc207525b099a6974d04656", func := "loop.example/g01075/laws.FnExactCrc16", spec := "fnExactCrc16", apart := false }
def FnExactCrc16Said : Prop := fnExactCrc16Row.holds Try.pinned (OpenSpec.ofChange fnExactCrc16Spec)

/-- ITS FALSE NEIGHBOUR: 'it returns false'. Refute it at one input. -/
def fnExactCrc16Wrong : ChangeSpec := { name := "fnExactCrc16", fn := fun _ => fun
  | [d1, d2] => { results := [.lit (.bool false)], args := [d1, d2] }
  | _ => none }
def FnExactCrc16WrongFalsely : Prop := fnExactCrc16Row.holds Try.pinned (OpenSpec.ofChange fnExactCrc16Wrong)

/-- 'laws.FnExactIsPartition': WHATEVER THE INPUT: true; the input reads as it did. -/
def fnExactIsPartitionSpec : ChangeSpec := { name := "fnExactIsPartition", fn := fun _ => fun
  | [d] => { results := [.lit (.bool true)], args := [d] }
  | _ => none }
def fnExactIsPartitionRow : OpenClaim := { program := "ytmfgabfnmpffpaa", sum := "2b57f55c3c442aba921d4a1f9d28036491926ff14bc207525b099a6974d04656", func := "loop.example/g01075/laws.FnExactIsPartition", spec := "fnExactIsPartition", apart := false }
def FnExactIsPartitionSaid : Prop := fnExactIsPartitionRow.holds Try.pinned (OpenSpec.ofChange fnExactIsPartitionSpec)

/-- ITS FALSE NEIGHBOUR: 'it returns false'. Refute it at one input. -/
def fnExactIsPartitionWrong : ChangeSpec := { name := "fnExactIsPartition", fn := fun _ => fun
  | [d] => { results := [.lit (.bool false)], args := [d] }
  | _ => none }
def FnExactIsPartitionWrongFalsely : Prop := fnExactIsPartitionRow.holds Try.pinned (OpenSpec.ofChange fnExactIsPartitionWrong)

/-- 'laws.FnExactOperate': WHATEVER THE INPUT: true; the input reads as it did. -/
def fnExactOperateSpec : ChangeSpec := { name := "fnExactOperate", fn := fun _ => fun
  | [d1, d2, d3] => { results := [.lit (.bool true)], args := [d1, d2, d3] }
  | _ => none }
def fnExactOperateRow : OpenClaim := { program := "ytmfgabfnmpffpaa", sum := "2b57f55c3c442aba921d4a1f9d28036491926ff14bc207525b099a6974d04656", func := "loop.example/g01075/laws.FnExactOperate", spec := "fnExactOperate", apart := false }
def FnExactOperateSaid : Prop := fnExactOperateRow.holds Try.pinned (OpenSpec.ofChange fnExactOperateSpec)

/-- ITS FALSE NEIGHBOUR: 'it returns false'. Refute it at one input. -/
def fnExactOperateWrong : ChangeSpec := { name := "fnExactOperate", fn := fun _ => fun
  | [d1, d2, d3] => { results := [.lit (.bool false)], args := [d1, d2, d3] }
  | _ => none }
def FnExactOperateWrongFalsely : Prop := fnExactOperateRow.holds Try.pinned (OpenSpec.ofChange fnExactOperateWrong)

/-- 'laws.FnExactCompareLists': WHATEVER THE INPUT: true; the input reads as it did. -/
def fnExactCompareListsSpec : ChangeSpec := { name := "fnExactCompareLists", fn := fun _ => fun
  | [d1, d2] => { results := [.lit (.bool true)], args := [d1, d2] }
  | _ => none }
def fnExactCompareListsRow : OpenClaim := { program := "ytmfgabfnmpffpaa", sum := "2b57f55c3c442aba921d4a1f9d28036491926ff14bc207525b099a6974d04656", func := "loop.example/g01075/laws.FnExactCompareLists", spec := "fnExactCompareLists", apart := false }
def FnExactCompareListsSaid : Prop := fnExactCompareListsRow.holds Try.pinned (OpenSpec.ofChange fnExactCompareListsSpec)

/-- ITS FALSE NEIGHBOUR: 'it returns false'. Refute it at one input. -/
def fnExactCompareListsWrong : ChangeSpec := { name := "fnExactCompareLists", fn := fun _ => fun
  | [d1, d2] => { results := [.lit (.bool false)], args := [d1, d2] }
  | _ => none }
def FnExactCompareListsWrongFalsely : Prop := fnExactCompareListsRow.holds Try.pinned (OpenSpec.ofChange fnExactCompareListsWrong)

/-- 'laws.FnExactNormalPartition': WHATEVER THE INPUT: true; the input reads as it did. -/
def fnExactNormalPartitionSpec : ChangeSpec := { name := "fnExactNormalPartition", fn := fun _ => fun
  | [d] => { results := [.lit (.bool true)], args := [d] }
  | _ => none }
def fnExactNormalPartitionRow : OpenClaim := { program := "ytmfgabfnmpffpaa", sum := "2b57f55c3c442aba921d4a1f9d28036491926ff14bc207525b099a6974d04656", func := "loop.example/g01075/laws.FnExactNormalPartition", spec := "fnExactNormalPartition", apart := false }
def FnExactNormalPartitionSaid : Prop := fnExactNormalPartitionRow.holds Try.pinned (OpenSpec.ofChange fnExactNormalPartitionSpec)

/-- ITS FALSE NEIGHBOUR: 'it returns false'. Refute it at one input. -/
def fnExactNormalPartitionWrong : ChangeSpec := { name := "fnExactNormalPartition", fn := fun _ => fun
  | [d] => { results := [.lit (.bool false)], args := [d] }
  | _ => none }
def FnExactNormalPartitionWrongFalsely : Prop := fnExactNormalPartitionRow.holds Try.pinned (OpenSpec.ofChange fnExactNormalPartitionWrong)

/- THE SECOND FORM. 'bulk': how many values and letters a reading holds, each counted each time it is reached (what is shared counts as often as it is met; a slice's spare places count too). A statement '..UptoSaid' is the law's where the arguments, and the package variables that the reading takes, are together of bulk at most 1048576: NARROWER than '..Said'. Prove '..Said' where nothing that the law and all that it calls make is longer than what came in: it says more and counts as full. Else prove '..UptoSaid'. A law counts once. -/
mutual
def uptoBulk {H : Type} : DataW H → Nat
  | .lit (.string bytes) => bytes.length + 1
  | .lit _ => 1
  | .nil => 1
  | .ptr d => uptoBulk d + 1
  | .slice elems spare => uptoBulkAll elems + uptoBulkAll spare + 1
  | .agg parts => uptoBulkAll parts + 1
  | .iface _ d => uptoBulk d + 1
  | .map entries => uptoBulkEntries entries + 1
  | .held _ => 1
def uptoBulkAll {H : Type} : List (DataW H) → Nat
  | [] => 0
  | d :: r => uptoBulk d + uptoBulkAll r
def uptoBulkEntries {H : Type} : List (Lit × DataW H) → Nat
  | [] => 0
  | x :: r => uptoBulkEntry x + uptoBulkEntries r
def uptoBulkEntry {H : Type} : Lit × DataW H → Nat
  | (.string bytes, d) => bytes.length + uptoBulk d + 1
  | (_, d) => uptoBulk d + 1
 end
def uptoSmall : (H : Type) → List (DataW H) → Bool := fun _ ds => decide (uptoBulkAll ds ≤ 1048576)
def OpenSpec.upto (s : _root_.Go.ChangeSpec) : _root_.Go.OpenSpec := { _root_.Go.OpenSpec.ofChange s with cond := some uptoSmall }

/-- 'laws.FnExactConstants', WHERE WHAT IT READS IS OF BULK AT MOST 1048576: true; the input reads as it did. -/
def fnExactConstantsUptoRow : OpenClaim := { program := "ytmfgabfnmpffpaa", sum := "2b57f55c3c442aba921d4a1f9d28036491926ff14bc207525b099a6974d04656", func := "loop.example/g01075/laws.FnExactConstants", spec := "fnExactConstants", apart := false, narrowed := true }
def FnExactConstantsUptoSaid : Prop := fnExactConstantsUptoRow.holds Try.pinned (OpenSpec.upto fnExactConstantsSpec)

/-- 'laws.FnExactCodeName', WHERE WHAT IT READS IS OF BULK AT MOST 1048576: true; the input reads as it did. -/
def fnExactCodeNameUptoRow : OpenClaim := { program := "ytmfgabfnmpffpaa", sum := "2b57f55c3c442aba921d4a1f9d28036491926ff14bc207525b099a6974d04656", func := "loop.example/g01075/laws.FnExactCodeName", spec := "fnExactCodeName", apart := false, narrowed := true }
def FnExactCodeNameUptoSaid : Prop := fnExactCodeNameUptoRow.holds Try.pinned (OpenSpec.upto fnExactCodeNameSpec)

/-- 'laws.FnExactIsName', WHERE WHAT IT READS IS OF BULK AT MOST 1048576: true; the input reads as it did. -/
def fnExactIsNameUptoRow : OpenClaim := { program := "ytmfgabfnmpffpaa", sum := "2b57f55c3c442aba921d4a1f9d28036491926ff14bc207525b099a6974d04656", func := "loop.example/g01075/laws.FnExactIsName", spec := "fnExactIsName", apart := false, narrowed := true }
def FnExactIsNameUptoSaid : Prop := fnExactIsNameUptoRow.holds Try.pinned (OpenSpec.upto fnExactIsNameSpec)

/-- 'laws.FnExactIsAction', WHERE WHAT IT READS IS OF BULK AT MOST 1048576: true; the input reads as it did. -/
def fnExactIsActionUptoRow : OpenClaim := { program := "ytmfgabfnmpffpaa", sum := "2b57f55c3c442aba921d4a1f9d28036491926ff14bc207525b099a6974d04656", func := "loop.example/g01075/laws.FnExactIsAction", spec := "fnExactIsAction", apart := false, narrowed := true }
def FnExactIsActionUptoSaid : Prop := fnExactIsActionUptoRow.holds Try.pinned (OpenSpec.upto fnExactIsActionSpec)

/-- 'laws.FnExactCrc16', WHERE WHAT IT READS IS OF BULK AT MOST 1048576: true; the input reads as it did. -/
def fnExactCrc16UptoRow : OpenClaim := { program := "ytmfgabfnmpffpaa", sum := "2b57f55c3c442aba921d4a1f9d28036491926ff14bc207525b099a6974d04656", func := "loop.example/g01075/laws.FnExactCrc16", spec := "fnExactCrc16", apart := false, narrowed := true }
def FnExactCrc16UptoSaid : Prop := fnExactCrc16UptoRow.holds Try.pinned (OpenSpec.upto fnExactCrc16Spec)

/-- 'laws.FnExactIsPartition', WHERE WHAT IT READS IS OF BULK AT MOST 1048576: true; the input reads as it did. -/
def fnExactIsPartitionUptoRow : OpenClaim := { program := "ytmfgabfnmpffpaa", sum := "2b57f55c3c442aba921d4a1f9d28036491926ff14bc207525b099a6974d04656", func := "loop.example/g01075/laws.FnExactIsPartition", spec := "fnExactIsPartition", apart := false, narrowed := true }
def FnExactIsPartitionUptoSaid : Prop := fnExactIsPartitionUptoRow.holds Try.pinned (OpenSpec.upto fnExactIsPartitionSpec)

/-- 'laws.FnExactOperate', WHERE WHAT IT READS IS OF BULK AT MOST 1048576: true; the input reads as it did. -/
def fnExactOperateUptoRow : OpenClaim := { program := "ytmfgabfnmpffpaa", sum := "2b57f55c3c442aba921d4a1f9d28036491926ff14bc207525b099a6974d04656", func := "loop.example/g01075/laws.FnExactOperate", spec := "fnExactOperate", apart := false, narrowed := true }
def FnExactOperateUptoSaid : Prop := fnExactOperateUptoRow.holds Try.pinned (OpenSpec.upto fnExactOperateSpec)

/-- 'laws.FnExactCompareLists', WHERE WHAT IT READS IS OF BULK AT MOST 1048576: true; the input reads as it did. -/
def fnExactCompareListsUptoRow : OpenClaim := { program := "ytmfgabfnmpffpaa", sum := "2b57f55c3c442aba921d4a1f9d28036491926ff14bc207525b099a6974d04656", func := "loop.example/g01075/laws.FnExactCompareLists", spec := "fnExactCompareLists", apart := false, narrowed := true }
def FnExactCompareListsUptoSaid : Prop := fnExactCompareListsUptoRow.holds Try.pinned (OpenSpec.upto fnExactCompareListsSpec)

/-- 'laws.FnExactNormalPartition', WHERE WHAT IT READS IS OF BULK AT MOST 1048576: true; the input reads as it did. -/
def fnExactNormalPartitionUptoRow : OpenClaim := { program := "ytmfgabfnmpffpaa", sum := "2b57f55c3c442aba921d4a1f9d28036491926ff14bc207525b099a6974d04656", func := "loop.example/g01075/laws.FnExactNormalPartition", spec := "fnExactNormalPartition", apart := false, narrowed := true }
def FnExactNormalPartitionUptoSaid : Prop := fnExactNormalPartitionUptoRow.holds Try.pinned (OpenSpec.upto fnExactNormalPartitionSpec)

end Rows
end Go.Proofs.Ytmfgabfnmpffpaa
