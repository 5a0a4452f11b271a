/-
  No cell of these rows narrows 'for every input' (looked for: loops, veiled, ifaces, maps, wideKeys, modest, calm, conditions, laid).
  DERIVED. THE GIVEN ROWS OF THIS SEAT. 3 by the template 'for every input the law returns true; each argument reads behind the call as it read before'; 0 by the template 'total and deterministic' (their statements: YtdlldgenkmngiaaTotals.lean).
  GIVEN WITH THE SEED: the statements are not yours to turn. If you find one false, say at which input.
  Laid BY PROGRAM, IN A SANDBOX (cutbox-rows.mjs): the forced cells as the released guide's own fill.sh prints them over the translation c840e33ebc05c15b… (all of the seat's roots in one cut). By AI agents, Wed Nov 11 2026. No macro, syntax, notation, axiom, sorry.
-/
import Derived.Test.YtdlldgenkmngiaaChecked
import GoSem.Claim
import GoSem.ClaimJoined
import GoSem.ClaimMapViews
import Derived.JoinedTies
import Derived.KernelRfl
namespace Go.Proofs.Ytdlldgenkmngiaa
/- THE CELL 'sum', in the pinned program and in every row, IS THE sha256 OF THE DUMP (.gsa) THAT YtdlldgenkmngiaaProg.lean LOADS. Nothing in Lean hashes anything: it is a label: what it is worth is what the hold of that sum in a sandbox is worth. -/
noncomputable def Try.pinned : Pinned := { name := "ytdlldgenkmngiaa", sum := "c840e33ebc05c15bcadc152077eda33afd411dbe30a3f77f8d4fb761e2b645c2", checked := Try.checked }
namespace Rows
def none {H : Type} : Left H := { results := [], args := [] }

/-- 'laws.FnExactValidGame': WHATEVER THE INPUT: true; the input reads as it did. -/
def fnExactValidGameSpec : ChangeSpec := { name := "fnExactValidGame", fn := fun _ => fun
  | [d] => { results := [.lit (.bool true)], args := [d] }
  | _ => none }
def fnExactValidGameRow : OpenClaim := { program := "ytdlldgenkmngiaa", sum := "c840e33ebc05c15bcadc152077eda33afd411dbe30a3f77f8d4fb761e2b645c2", func := "loop.example/g01075/laws.FnExactValidGame", spec := "fnExactValidGame", unfollowed := true, recurses := true, apart := false }
def FnExactValidGameSaid : Prop := fnExactValidGameRow.holds Try.pinned (OpenSpec.ofChange fnExactValidGameSpec)

/-- ITS FALSE NEIGHBOUR: 'it returns false'. Refute it at one input. -/
def fnExactValidGameWrong : ChangeSpec := { name := "fnExactValidGame", fn := fun _ => fun
  | [d] => { results := [.lit (.bool false)], args := [d] }
  | _ => none }
def FnExactValidGameWrongFalsely : Prop := fnExactValidGameRow.holds Try.pinned (OpenSpec.ofChange fnExactValidGameWrong)

/-- 'laws.FnExactSameLts': WHATEVER THE INPUT: true; the input reads as it did. -/
def fnExactSameLtsSpec : ChangeSpec := { name := "fnExactSameLts", fn := fun _ => fun
  | [d1, d2] => { results := [.lit (.bool true)], args := [d1, d2] }
  | _ => none }
def fnExactSameLtsRow : OpenClaim := { program := "ytdlldgenkmngiaa", sum := "c840e33ebc05c15bcadc152077eda33afd411dbe30a3f77f8d4fb761e2b645c2", func := "loop.example/g01075/laws.FnExactSameLts", spec := "fnExactSameLts", apart := false }
def FnExactSameLtsSaid : Prop := fnExactSameLtsRow.holds Try.pinned (OpenSpec.ofChange fnExactSameLtsSpec)

/-- ITS FALSE NEIGHBOUR: 'it returns false'. Refute it at one input. -/
def fnExactSameLtsWrong : ChangeSpec := { name := "fnExactSameLts", fn := fun _ => fun
  | [d1, d2] => { results := [.lit (.bool false)], args := [d1, d2] }
  | _ => none }
def FnExactSameLtsWrongFalsely : Prop := fnExactSameLtsRow.holds Try.pinned (OpenSpec.ofChange fnExactSameLtsWrong)

/-- 'laws.FnExactSameSystem': WHATEVER THE INPUT: true; the input reads as it did. -/
def fnExactSameSystemSpec : ChangeSpec := { name := "fnExactSameSystem", fn := fun _ => fun
  | [d1, d2] => { results := [.lit (.bool true)], args := [d1, d2] }
  | _ => none }
def fnExactSameSystemRow : OpenClaim := { program := "ytdlldgenkmngiaa", sum := "c840e33ebc05c15bcadc152077eda33afd411dbe30a3f77f8d4fb761e2b645c2", func := "loop.example/g01075/laws.FnExactSameSystem", spec := "fnExactSameSystem", unfollowed := true, recurses := true, apart := false }
def FnExactSameSystemSaid : Prop := fnExactSameSystemRow.holds Try.pinned (OpenSpec.ofChange fnExactSameSystemSpec)

/-- ITS FALSE NEIGHBOUR: 'it returns false'. Refute it at one input. -/
def fnExactSameSystemWrong : ChangeSpec := { name := "fnExactSameSystem", fn := fun _ => fun
  | [d1, d2] => { results := [.lit (.bool false)], args := [d1, d2] }
  | _ => none }
def FnExactSameSystemWrongFalsely : Prop := fnExactSameSystemRow.holds Try.pinned (OpenSpec.ofChange fnExactSameSystemWrong)

/- THE SECOND FORM. 'bulk': how many values and letters a reading holds, each counted each time it is reached (what is shared counts as often as it is met; a slice's spare places count too). A statement '..UptoSaid' is the law's where the arguments, and the package variables that the reading takes, are together of bulk at most 1048576: NARROWER than '..Said'. Prove '..Said' where nothing that the law and all that it calls make is longer than what came in: it says more and counts as full. Else prove '..UptoSaid'. A law counts once. -/
mutual
def uptoBulk {H : Type} : DataW H → Nat
  | .lit (.string bytes) => bytes.length + 1
  | .lit _ => 1
  | .nil => 1
  | .ptr d => uptoBulk d + 1
  | .slice elems spare => uptoBulkAll elems + uptoBulkAll spare + 1
  | .agg parts => uptoBulkAll parts + 1
  | .iface _ d => uptoBulk d + 1
  | .map entries => uptoBulkEntries entries + 1
  | .held _ => 1
def uptoBulkAll {H : Type} : List (DataW H) → Nat
  | [] => 0
  | d :: r => uptoBulk d + uptoBulkAll r
def uptoBulkEntries {H : Type} : List (Lit × DataW H) → Nat
  | [] => 0
  | x :: r => uptoBulkEntry x + uptoBulkEntries r
def uptoBulkEntry {H : Type} : Lit × DataW H → Nat
  | (.string bytes, d) => bytes.length + uptoBulk d + 1
  | (_, d) => uptoBulk d + 1
 end
def uptoSmall : (H : Type) → List (DataW H) → Bool := fun _ ds => decide (uptoBulkAll ds ≤ 1048576)
def OpenSpec.upto (s : _root_.Go.ChangeSpec) : _root_.Go.OpenSpec := { _root_.Go.OpenSpec.ofChange s with cond := some uptoSmall }

/-- 'laws.FnExactValidGame', WHERE WHAT IT READS IS OF BULK AT MOST 1048576: true; the input reads as it did. -/
def fnExactValidGameUptoRow : OpenClaim := { program := "ytdlldgenkmngiaa", sum := "c840e33ebc05c15bcadc152077eda33afd411dbe30a3f77f8d4fb761e2b645c2", func := "loop.example/g01075/laws.FnExactValidGame", spec := "fnExactValidGame", unfollowed := true, recurses := true, apart := false, narrowed := true }
def FnExactValidGameUptoSaid : Prop := fnExactValidGameUptoRow.holds Try.pinned (OpenSpec.upto fnExactValidGameSpec)

/-- 'laws.FnExactSameLts', WHERE WHAT IT READS IS OF BULK AT MOST 1048576: true; the input reads as it did. -/
def fnExactSameLtsUptoRow : OpenClaim := { program := "ytdlldgenkmngiaa", sum := "c840e33ebc05c15bcadc152077eda33afd411dbe30a3f77f8d4fb761e2b645c2", func := "loop.example/g01075/laws.FnExactSameLts", spec := "fnExactSameLts", apart := false, narrowed := true }
def FnExactSameLtsUptoSaid : Prop := fnExactSameLtsUptoRow.holds Try.pinned (OpenSpec.upto fnExactSameLtsSpec)

/-- 'laws.FnExactSameSystem', WHERE WHAT IT READS IS OF BULK AT MOST 1048576: true; the input reads as it did. -/
def fnExactSameSystemUptoRow : OpenClaim := { program := "ytdlldgenkmngiaa", sum := "c840e33ebc05c15bcadc152077eda33afd411dbe30a3f77f8d4fb761e2b645c2", func := "loop.example/g01075/laws.FnExactSameSystem", spec := "fnExactSameSystem", unfollowed := true, recurses := true, apart := false, narrowed := true }
def FnExactSameSystemUptoSaid : Prop := fnExactSameSystemUptoRow.holds Try.pinned (OpenSpec.upto fnExactSameSystemSpec)

end Rows
end Go.Proofs.Ytdlldgenkmngiaa
