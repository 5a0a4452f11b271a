/-
  No cell of these rows narrows 'for every input' (looked for: loops, veiled, ifaces, maps, wideKeys, modest, calm, conditions, laid).
  DERIVED. THE GIVEN ROWS OF THIS SEAT. 11 by the template 'for every input the law returns true; each argument reads behind the call as it read before'; 0 by the template 'total and deterministic' (their statements: YthnlnnbhkpnkgaaTotals.lean).
  GIVEN WITH THE SEED: the statements are not yours to turn. If you find one false, say at which input.
  Laid BY PROGRAM, IN A SANDBOX (cutbox-rows.mjs): the forced cells as the released guide's own fill.sh prints them over the translation fa7ed17b31c3185b… (all of the seat's roots in one cut). By AI agents, Wed Nov 11 2026. No macro, syntax, notation, axiom, sorry.
-/
import Derived.Test.YthnlnnbhkpnkgaaChecked
import GoSem.Claim
import GoSem.ClaimJoined
import GoSem.ClaimMapViews
import Derived.JoinedTies
import Derived.KernelRfl
namespace Go.Proofs.Ythnlnnbhkpnkgaa
/- THE CELL 'sum', in the pinned program and in every row, IS THE sha256 OF THE DUMP (.gsa) THAT YthnlnnbhkpnkgaaProg.lean LOADS. Nothing in Lean hashes anything: it is a label: what it is worth is what the hold of that sum in a sandbox is worth. -/
noncomputable def Try.pinned : Pinned := { name := "ythnlnnbhkpnkgaa", sum := "fa7ed17b31c3185bf93cc2ac9d7e92456e7b3918112237e1dd3b0384e2de0cd3", checked := Try.checked }
namespace Rows
def none {H : Type} : Left H := { results := [], args := [] }

/-- 'laws.FnExactSplitWords': WHATEVER THE INPUT: true; the input reads as it did. -/
def fnExactSplitWordsSpec : ChangeSpec := { name := "fnExactSplitWords", fn := fun _ => fun
  | [d] => { results := [.lit (.bool true)], args := [d] }
  | _ => none }
def fnExactSplitWordsRow : OpenClaim := { program := "ythnlnnbhkpnkgaa", sum := "fa7ed17b31c3185bf93cc2ac9d7e92456e7b3918112237e1dd3b0384e2de0cd3", func := "loop.example/g01075/laws.FnExactSplitWords", spec := "fnExactSplitWords", unfollowed := true, recurses := true, apart := false }
def FnExactSplitWordsSaid : Prop := fnExactSplitWordsRow.holds Try.pinned (OpenSpec.ofChange fnExactSplitWordsSpec)

/-- ITS FALSE NEIGHBOUR: 'it returns false'. Refute it at one input. -/
def fnExactSplitWordsWrong : ChangeSpec := { name := "fnExactSplitWords", fn := fun _ => fun
  | [d] => { results := [.lit (.bool false)], args := [d] }
  | _ => none }
def FnExactSplitWordsWrongFalsely : Prop := fnExactSplitWordsRow.holds Try.pinned (OpenSpec.ofChange fnExactSplitWordsWrong)

/-- 'laws.FnExactRefinesPartition': WHATEVER THE INPUT: true; the input reads as it did. -/
def fnExactRefinesPartitionSpec : ChangeSpec := { name := "fnExactRefinesPartition", fn := fun _ => fun
  | [d1, d2] => { results := [.lit (.bool true)], args := [d1, d2] }
  | _ => none }
def fnExactRefinesPartitionRow : OpenClaim := { program := "ythnlnnbhkpnkgaa", sum := "fa7ed17b31c3185bf93cc2ac9d7e92456e7b3918112237e1dd3b0384e2de0cd3", func := "loop.example/g01075/laws.FnExactRefinesPartition", spec := "fnExactRefinesPartition", apart := false }
def FnExactRefinesPartitionSaid : Prop := fnExactRefinesPartitionRow.holds Try.pinned (OpenSpec.ofChange fnExactRefinesPartitionSpec)

/-- ITS FALSE NEIGHBOUR: 'it returns false'. Refute it at one input. -/
def fnExactRefinesPartitionWrong : ChangeSpec := { name := "fnExactRefinesPartition", fn := fun _ => fun
  | [d1, d2] => { results := [.lit (.bool false)], args := [d1, d2] }
  | _ => none }
def FnExactRefinesPartitionWrongFalsely : Prop := fnExactRefinesPartitionRow.holds Try.pinned (OpenSpec.ofChange fnExactRefinesPartitionWrong)

/-- 'laws.FnExactIsRelation': WHATEVER THE INPUT: true; the input reads as it did. -/
def fnExactIsRelationSpec : ChangeSpec := { name := "fnExactIsRelation", fn := fun _ => fun
  | [d1, d2] => { results := [.lit (.bool true)], args := [d1, d2] }
  | _ => none }
def fnExactIsRelationRow : OpenClaim := { program := "ythnlnnbhkpnkgaa", sum := "fa7ed17b31c3185bf93cc2ac9d7e92456e7b3918112237e1dd3b0384e2de0cd3", func := "loop.example/g01075/laws.FnExactIsRelation", spec := "fnExactIsRelation", apart := false }
def FnExactIsRelationSaid : Prop := fnExactIsRelationRow.holds Try.pinned (OpenSpec.ofChange fnExactIsRelationSpec)

/-- ITS FALSE NEIGHBOUR: 'it returns false'. Refute it at one input. -/
def fnExactIsRelationWrong : ChangeSpec := { name := "fnExactIsRelation", fn := fun _ => fun
  | [d1, d2] => { results := [.lit (.bool false)], args := [d1, d2] }
  | _ => none }
def FnExactIsRelationWrongFalsely : Prop := fnExactIsRelationRow.holds Try.pinned (OpenSpec.ofChange fnExactIsRelationWrong)

/-- 'laws.FnExactValidGame': WHATEVER THE INPUT: true; the input reads as it did. -/
def fnExactValidGameSpec : ChangeSpec := { name := "fnExactValidGame", fn := fun _ => fun
  | [d] => { results := [.lit (.bool true)], args := [d] }
  | _ => none }
def fnExactValidGameRow : OpenClaim := { program := "ythnlnnbhkpnkgaa", sum := "fa7ed17b31c3185bf93cc2ac9d7e92456e7b3918112237e1dd3b0384e2de0cd3", func := "loop.example/g01075/laws.FnExactValidGame", spec := "fnExactValidGame", unfollowed := true, recurses := true, apart := false }
def FnExactValidGameSaid : Prop := fnExactValidGameRow.holds Try.pinned (OpenSpec.ofChange fnExactValidGameSpec)

/-- ITS FALSE NEIGHBOUR: 'it returns false'. Refute it at one input. -/
def fnExactValidGameWrong : ChangeSpec := { name := "fnExactValidGame", fn := fun _ => fun
  | [d] => { results := [.lit (.bool false)], args := [d] }
  | _ => none }
def FnExactValidGameWrongFalsely : Prop := fnExactValidGameRow.holds Try.pinned (OpenSpec.ofChange fnExactValidGameWrong)

/-- 'laws.FnExactMeetPartitions': WHATEVER THE INPUT: true; the input reads as it did. -/
def fnExactMeetPartitionsSpec : ChangeSpec := { name := "fnExactMeetPartitions", fn := fun _ => fun
  | [d1, d2] => { results := [.lit (.bool true)], args := [d1, d2] }
  | _ => none }
def fnExactMeetPartitionsRow : OpenClaim := { program := "ythnlnnbhkpnkgaa", sum := "fa7ed17b31c3185bf93cc2ac9d7e92456e7b3918112237e1dd3b0384e2de0cd3", func := "loop.example/g01075/laws.FnExactMeetPartitions", spec := "fnExactMeetPartitions", apart := false }
def FnExactMeetPartitionsSaid : Prop := fnExactMeetPartitionsRow.holds Try.pinned (OpenSpec.ofChange fnExactMeetPartitionsSpec)

/-- ITS FALSE NEIGHBOUR: 'it returns false'. Refute it at one input. -/
def fnExactMeetPartitionsWrong : ChangeSpec := { name := "fnExactMeetPartitions", fn := fun _ => fun
  | [d1, d2] => { results := [.lit (.bool false)], args := [d1, d2] }
  | _ => none }
def FnExactMeetPartitionsWrongFalsely : Prop := fnExactMeetPartitionsRow.holds Try.pinned (OpenSpec.ofChange fnExactMeetPartitionsWrong)

/-- 'laws.FnExactPairsOf': WHATEVER THE INPUT: true; the input reads as it did. -/
def fnExactPairsOfSpec : ChangeSpec := { name := "fnExactPairsOf", fn := fun _ => fun
  | [d] => { results := [.lit (.bool true)], args := [d] }
  | _ => none }
def fnExactPairsOfRow : OpenClaim := { program := "ythnlnnbhkpnkgaa", sum := "fa7ed17b31c3185bf93cc2ac9d7e92456e7b3918112237e1dd3b0384e2de0cd3", func := "loop.example/g01075/laws.FnExactPairsOf", spec := "fnExactPairsOf", apart := false }
def FnExactPairsOfSaid : Prop := fnExactPairsOfRow.holds Try.pinned (OpenSpec.ofChange fnExactPairsOfSpec)

/-- ITS FALSE NEIGHBOUR: 'it returns false'. Refute it at one input. -/
def fnExactPairsOfWrong : ChangeSpec := { name := "fnExactPairsOf", fn := fun _ => fun
  | [d] => { results := [.lit (.bool false)], args := [d] }
  | _ => none }
def FnExactPairsOfWrongFalsely : Prop := fnExactPairsOfRow.holds Try.pinned (OpenSpec.ofChange fnExactPairsOfWrong)

/-- 'laws.FnExactSameLts': WHATEVER THE INPUT: true; the input reads as it did. -/
def fnExactSameLtsSpec : ChangeSpec := { name := "fnExactSameLts", fn := fun _ => fun
  | [d1, d2] => { results := [.lit (.bool true)], args := [d1, d2] }
  | _ => none }
def fnExactSameLtsRow : OpenClaim := { program := "ythnlnnbhkpnkgaa", sum := "fa7ed17b31c3185bf93cc2ac9d7e92456e7b3918112237e1dd3b0384e2de0cd3", func := "loop.example/g01075/laws.FnExactSameLts", spec := "fnExactSameLts", apart := false }
def FnExactSameLtsSaid : Prop := fnExactSameLtsRow.holds Try.pinned (OpenSpec.ofChange fnExactSameLtsSpec)

/-- ITS FALSE NEIGHBOUR: 'it returns false'. Refute it at one input. -/
def fnExactSameLtsWrong : ChangeSpec := { name := "fnExactSameLts", fn := fun _ => fun
  | [d1, d2] => { results := [.lit (.bool false)], args := [d1, d2] }
  | _ => none }
def FnExactSameLtsWrongFalsely : Prop := fnExactSameLtsRow.holds Try.pinned (OpenSpec.ofChange fnExactSameLtsWrong)

/-- 'laws.FnExactBlocksOf': WHATEVER THE INPUT: true; the input reads as it did. -/
def fnExactBlocksOfSpec : ChangeSpec := { name := "fnExactBlocksOf", fn := fun _ => fun
  | [d] => { results := [.lit (.bool true)], args := [d] }
  | _ => none }
def fnExactBlocksOfRow : OpenClaim := { program := "ythnlnnbhkpnkgaa", sum := "fa7ed17b31c3185bf93cc2ac9d7e92456e7b3918112237e1dd3b0384e2de0cd3", func := "loop.example/g01075/laws.FnExactBlocksOf", spec := "fnExactBlocksOf", apart := false }
def FnExactBlocksOfSaid : Prop := fnExactBlocksOfRow.holds Try.pinned (OpenSpec.ofChange fnExactBlocksOfSpec)

/-- ITS FALSE NEIGHBOUR: 'it returns false'. Refute it at one input. -/
def fnExactBlocksOfWrong : ChangeSpec := { name := "fnExactBlocksOf", fn := fun _ => fun
  | [d] => { results := [.lit (.bool false)], args := [d] }
  | _ => none }
def FnExactBlocksOfWrongFalsely : Prop := fnExactBlocksOfRow.holds Try.pinned (OpenSpec.ofChange fnExactBlocksOfWrong)

/-- 'laws.FnExactJoinPartitions': WHATEVER THE INPUT: true; the input reads as it did. -/
def fnExactJoinPartitionsSpec : ChangeSpec := { name := "fnExactJoinPartitions", fn := fun _ => fun
  | [d1, d2] => { results := [.lit (.bool true)], args := [d1, d2] }
  | _ => none }
def fnExactJoinPartitionsRow : OpenClaim := { program := "ythnlnnbhkpnkgaa", sum := "fa7ed17b31c3185bf93cc2ac9d7e92456e7b3918112237e1dd3b0384e2de0cd3", func := "loop.example/g01075/laws.FnExactJoinPartitions", spec := "fnExactJoinPartitions", apart := false }
def FnExactJoinPartitionsSaid : Prop := fnExactJoinPartitionsRow.holds Try.pinned (OpenSpec.ofChange fnExactJoinPartitionsSpec)

/-- ITS FALSE NEIGHBOUR: 'it returns false'. Refute it at one input. -/
def fnExactJoinPartitionsWrong : ChangeSpec := { name := "fnExactJoinPartitions", fn := fun _ => fun
  | [d1, d2] => { results := [.lit (.bool false)], args := [d1, d2] }
  | _ => none }
def FnExactJoinPartitionsWrongFalsely : Prop := fnExactJoinPartitionsRow.holds Try.pinned (OpenSpec.ofChange fnExactJoinPartitionsWrong)

/-- 'laws.FnExactSpanOf': WHATEVER THE INPUT: true; the input reads as it did. -/
def fnExactSpanOfSpec : ChangeSpec := { name := "fnExactSpanOf", fn := fun _ => fun
  | [d1, d2] => { results := [.lit (.bool true)], args := [d1, d2] }
  | _ => none }
def fnExactSpanOfRow : OpenClaim := { program := "ythnlnnbhkpnkgaa", sum := "fa7ed17b31c3185bf93cc2ac9d7e92456e7b3918112237e1dd3b0384e2de0cd3", func := "loop.example/g01075/laws.FnExactSpanOf", spec := "fnExactSpanOf", apart := false }
def FnExactSpanOfSaid : Prop := fnExactSpanOfRow.holds Try.pinned (OpenSpec.ofChange fnExactSpanOfSpec)

/-- ITS FALSE NEIGHBOUR: 'it returns false'. Refute it at one input. -/
def fnExactSpanOfWrong : ChangeSpec := { name := "fnExactSpanOf", fn := fun _ => fun
  | [d1, d2] => { results := [.lit (.bool false)], args := [d1, d2] }
  | _ => none }
def FnExactSpanOfWrongFalsely : Prop := fnExactSpanOfRow.holds Try.pinned (OpenSpec.ofChange fnExactSpanOfWrong)

/-- 'laws.FnExactFromBlocks': WHATEVER THE INPUT: true; the input reads as it did. -/
def fnExactFromBlocksSpec : ChangeSpec := { name := "fnExactFromBlocks", fn := fun _ => fun
  | [d1, d2] => { results := [.lit (.bool true)], args := [d1, d2] }
  | _ => none }
def fnExactFromBlocksRow : OpenClaim := { program := "ythnlnnbhkpnkgaa", sum := "fa7ed17b31c3185bf93cc2ac9d7e92456e7b3918112237e1dd3b0384e2de0cd3", func := "loop.example/g01075/laws.FnExactFromBlocks", spec := "fnExactFromBlocks", unfollowed := true, recurses := true, apart := false }
def FnExactFromBlocksSaid : Prop := fnExactFromBlocksRow.holds Try.pinned (OpenSpec.ofChange fnExactFromBlocksSpec)

/-- ITS FALSE NEIGHBOUR: 'it returns false'. Refute it at one input. -/
def fnExactFromBlocksWrong : ChangeSpec := { name := "fnExactFromBlocks", fn := fun _ => fun
  | [d1, d2] => { results := [.lit (.bool false)], args := [d1, d2] }
  | _ => none }
def FnExactFromBlocksWrongFalsely : Prop := fnExactFromBlocksRow.holds Try.pinned (OpenSpec.ofChange fnExactFromBlocksWrong)

/- THE SECOND FORM. 'bulk': how many values and letters a reading holds, each counted each time it is reached (what is shared counts as often as it is met; a slice's spare places count too). A statement '..UptoSaid' is the law's where the arguments, and the package variables that the reading takes, are together of bulk at most 1048576: NARROWER than '..Said'. Prove '..Said' where nothing that the law and all that it calls make is longer than what came in: it says more and counts as full. Else prove '..UptoSaid'. A law counts once. -/
mutual
def uptoBulk {H : Type} : DataW H → Nat
  | .lit (.string bytes) => bytes.length + 1
  | .lit _ => 1
  | .nil => 1
  | .ptr d => uptoBulk d + 1
  | .slice elems spare => uptoBulkAll elems + uptoBulkAll spare + 1
  | .agg parts => uptoBulkAll parts + 1
  | .iface _ d => uptoBulk d + 1
  | .map entries => uptoBulkEntries entries + 1
  | .held _ => 1
def uptoBulkAll {H : Type} : List (DataW H) → Nat
  | [] => 0
  | d :: r => uptoBulk d + uptoBulkAll r
def uptoBulkEntries {H : Type} : List (Lit × DataW H) → Nat
  | [] => 0
  | x :: r => uptoBulkEntry x + uptoBulkEntries r
def uptoBulkEntry {H : Type} : Lit × DataW H → Nat
  | (.string bytes, d) => bytes.length + uptoBulk d + 1
  | (_, d) => uptoBulk d + 1
 end
def uptoSmall : (H : Type) → List (DataW H) → Bool := fun _ ds => decide (uptoBulkAll ds ≤ 1048576)
def OpenSpec.upto (s : _root_.Go.ChangeSpec) : _root_.Go.OpenSpec := { _root_.Go.OpenSpec.ofChange s with cond := some uptoSmall }

/-- 'laws.FnExactSplitWords', WHERE WHAT IT READS IS OF BULK AT MOST 1048576: true; the input reads as it did. -/
def fnExactSplitWordsUptoRow : OpenClaim := { program := "ythnlnnbhkpnkgaa", sum := "fa7ed17b31c3185bf93cc2ac9d7e92456e7b3918112237e1dd3b0384e2de0cd3", func := "loop.example/g01075/laws.FnExactSplitWords", spec := "fnExactSplitWords", unfollowed := true, recurses := true, apart := false, narrowed := true }
def FnExactSplitWordsUptoSaid : Prop := fnExactSplitWordsUptoRow.holds Try.pinned (OpenSpec.upto fnExactSplitWordsSpec)

/-- 'laws.FnExactRefinesPartition', WHERE WHAT IT READS IS OF BULK AT MOST 1048576: true; the input reads as it did. -/
def fnExactRefinesPartitionUptoRow : OpenClaim := { program := "ythnlnnbhkpnkgaa", sum := "fa7ed17b31c3185bf93cc2ac9d7e92456e7b3918112237e1dd3b0384e2de0cd3", func := "loop.example/g01075/laws.FnExactRefinesPartition", spec := "fnExactRefinesPartition", apart := false, narrowed := true }
def FnExactRefinesPartitionUptoSaid : Prop := fnExactRefinesPartitionUptoRow.holds Try.pinned (OpenSpec.upto fnExactRefinesPartitionSpec)

/-- 'laws.FnExactIsRelation', WHERE WHAT IT READS IS OF BULK AT MOST 1048576: true; the input reads as it did. -/
def fnExactIsRelationUptoRow : OpenClaim := { program := "ythnlnnbhkpnkgaa", sum := "fa7ed17b31c3185bf93cc2ac9d7e92456e7b3918112237e1dd3b0384e2de0cd3", func := "loop.example/g01075/laws.FnExactIsRelation", spec := "fnExactIsRelation", apart := false, narrowed := true }
def FnExactIsRelationUptoSaid : Prop := fnExactIsRelationUptoRow.holds Try.pinned (OpenSpec.upto fnExactIsRelationSpec)

/-- 'laws.FnExactValidGame', WHERE WHAT IT READS IS OF BULK AT MOST 1048576: true; the input reads as it did. -/
def fnExactValidGameUptoRow : OpenClaim := { program := "ythnlnnbhkpnkgaa", sum := "fa7ed17b31c3185bf93cc2ac9d7e92456e7b3918112237e1dd3b0384e2de0cd3", func := "loop.example/g01075/laws.FnExactValidGame", spec := "fnExactValidGame", unfollowed := true, recurses := true, apart := false, narrowed := true }
def FnExactValidGameUptoSaid : Prop := fnExactValidGameUptoRow.holds Try.pinned (OpenSpec.upto fnExactValidGameSpec)

/-- 'laws.FnExactMeetPartitions', WHERE WHAT IT READS IS OF BULK AT MOST 1048576: true; the input reads as it did. -/
def fnExactMeetPartitionsUptoRow : OpenClaim := { program := "ythnlnnbhkpnkgaa", sum := "fa7ed17b31c3185bf93cc2ac9d7e92456e7b3918112237e1dd3b0384e2de0cd3", func := "loop.example/g01075/laws.FnExactMeetPartitions", spec := "fnExactMeetPartitions", apart := false, narrowed := true }
def FnExactMeetPartitionsUptoSaid : Prop := fnExactMeetPartitionsUptoRow.holds Try.pinned (OpenSpec.upto fnExactMeetPartitionsSpec)

/-- 'laws.FnExactPairsOf', WHERE WHAT IT READS IS OF BULK AT MOST 1048576: true; the input reads as it did. -/
def fnExactPairsOfUptoRow : OpenClaim := { program := "ythnlnnbhkpnkgaa", sum := "fa7ed17b31c3185bf93cc2ac9d7e92456e7b3918112237e1dd3b0384e2de0cd3", func := "loop.example/g01075/laws.FnExactPairsOf", spec := "fnExactPairsOf", apart := false, narrowed := true }
def FnExactPairsOfUptoSaid : Prop := fnExactPairsOfUptoRow.holds Try.pinned (OpenSpec.upto fnExactPairsOfSpec)

/-- 'laws.FnExactSameLts', WHERE WHAT IT READS IS OF BULK AT MOST 1048576: true; the input reads as it did. -/
def fnExactSameLtsUptoRow : OpenClaim := { program := "ythnlnnbhkpnkgaa", sum := "fa7ed17b31c3185bf93cc2ac9d7e92456e7b3918112237e1dd3b0384e2de0cd3", func := "loop.example/g01075/laws.FnExactSameLts", spec := "fnExactSameLts", apart := false, narrowed := true }
def FnExactSameLtsUptoSaid : Prop := fnExactSameLtsUptoRow.holds Try.pinned (OpenSpec.upto fnExactSameLtsSpec)

/-- 'laws.FnExactBlocksOf', WHERE WHAT IT READS IS OF BULK AT MOST 1048576: true; the input reads as it did. -/
def fnExactBlocksOfUptoRow : OpenClaim := { program := "ythnlnnbhkpnkgaa", sum := "fa7ed17b31c3185bf93cc2ac9d7e92456e7b3918112237e1dd3b0384e2de0cd3", func := "loop.example/g01075/laws.FnExactBlocksOf", spec := "fnExactBlocksOf", apart := false, narrowed := true }
def FnExactBlocksOfUptoSaid : Prop := fnExactBlocksOfUptoRow.holds Try.pinned (OpenSpec.upto fnExactBlocksOfSpec)

/-- 'laws.FnExactJoinPartitions', WHERE WHAT IT READS IS OF BULK AT MOST 1048576: true; the input reads as it did. -/
def fnExactJoinPartitionsUptoRow : OpenClaim := { program := "ythnlnnbhkpnkgaa", sum := "fa7ed17b31c3185bf93cc2ac9d7e92456e7b3918112237e1dd3b0384e2de0cd3", func := "loop.example/g01075/laws.FnExactJoinPartitions", spec := "fnExactJoinPartitions", apart := false, narrowed := true }
def FnExactJoinPartitionsUptoSaid : Prop := fnExactJoinPartitionsUptoRow.holds Try.pinned (OpenSpec.upto fnExactJoinPartitionsSpec)

/-- 'laws.FnExactSpanOf', WHERE WHAT IT READS IS OF BULK AT MOST 1048576: true; the input reads as it did. -/
def fnExactSpanOfUptoRow : OpenClaim := { program := "ythnlnnbhkpnkgaa", sum := "fa7ed17b31c3185bf93cc2ac9d7e92456e7b3918112237e1dd3b0384e2de0cd3", func := "loop.example/g01075/laws.FnExactSpanOf", spec := "fnExactSpanOf", apart := false, narrowed := true }
def FnExactSpanOfUptoSaid : Prop := fnExactSpanOfUptoRow.holds Try.pinned (OpenSpec.upto fnExactSpanOfSpec)

/-- 'laws.FnExactFromBlocks', WHERE WHAT IT READS IS OF BULK AT MOST 1048576: true; the input reads as it did. -/
def fnExactFromBlocksUptoRow : OpenClaim := { program := "ythnlnnbhkpnkgaa", sum := "fa7ed17b31c3185bf93cc2ac9d7e92456e7b3918112237e1dd3b0384e2de0cd3", func := "loop.example/g01075/laws.FnExactFromBlocks", spec := "fnExactFromBlocks", unfollowed := true, recurses := true, apart := false, narrowed := true }
def FnExactFromBlocksUptoSaid : Prop := fnExactFromBlocksUptoRow.holds Try.pinned (OpenSpec.upto fnExactFromBlocksSpec)

end Rows
end Go.Proofs.Ythnlnnbhkpnkgaa
