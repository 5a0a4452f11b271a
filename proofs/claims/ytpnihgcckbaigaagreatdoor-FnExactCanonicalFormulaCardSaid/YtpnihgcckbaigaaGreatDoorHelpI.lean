/- The laws' own helpers over slices of int64: toInt64S, eqInt64S, markInt64S, heldInt64S. -/
import Derived.Test.YtpnihgcckbaigaaGreatDoorProg
import Derived.Test.YtpnihgcckbaigaaGreatDoorMem
import Derived.WalkKit
import Derived.BigQuiet
import Derived.Deep.QuietTactic
import Derived.Lib.Hide
import Derived.Outline
set_option linter.unusedVariables false
set_option linter.unusedSimpArgs false
namespace Go.Proofs.YtpnihgcckbaigaaGreatDoor
open Go.RowKit

theorem infoI64 : (Tryz.prog.info? 2).map (fun i => (i.zero, i.size, i.bytes)) = some (some (.int .i64 0), 1, 8) := by kernel_rfl

/-- The numbers k, k + 1, .. -/
def marks (k : Int) (n : Nat) : List Int := (List.range n).map fun (i : Nat) => k + (i : Int)
theorem marks_length (k : Int) (n : Nat) : (marks k n).length = n := by simp [marks]
theorem nth_marks (k : Int) (n i : Nat) (h : i < n) : nth (marks k n) i = k + i := by simp [nth, marks, h]

end Go.Proofs.YtpnihgcckbaigaaGreatDoor
