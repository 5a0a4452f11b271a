/- The laws' own helpers over slices of Reg: sz, to, eq. -/
import Derived.Test.YtbhkpnhlegiilaaGreatDoorProg
import Derived.Test.YtbhkpnhlegiilaaGreatDoorMem
import Derived.Test.YtbhkpnhlegiilaaGreatDoorMath
import Derived.Test.YtbhkpnhlegiilaaGreatDoorOpenI
import Derived.Test.YtbhkpnhlegiilaaGreatDoorHelpI
import Derived.Test.YtbhkpnhlegiilaaGreatDoorGrid
import Derived.Test.YtbhkpnhlegiilaaGreatDoorLab
import Derived.Test.YtbhkpnhlegiilaaGreatDoorReg
import Derived.WalkKit
import Derived.BigQuiet
import Derived.BigRegion
import Derived.StillTailTactics
import Derived.Deep.QuietTactic
import Derived.Laws.ResultCell
import Derived.Laws.OwnMore
import Derived.Lib.Hide
import Derived.Outline
set_option linter.unusedVariables false
set_option linter.unusedSimpArgs false
namespace Go.Proofs.YtbhkpnhlegiilaaGreatDoor
open Go.RowKit

def rgA (n : Rg) : Value := .agg #[.int .i64 n.kind, .string n.lab, .bool n.neg]
end Go.Proofs.YtbhkpnhlegiilaaGreatDoor
