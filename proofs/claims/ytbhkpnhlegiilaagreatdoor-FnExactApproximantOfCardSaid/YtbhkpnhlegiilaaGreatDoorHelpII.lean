/- The laws' own helpers over slices of slices of int64: szInt64SS, toInt64SS, eqInt64SS, markInt64SS, heldInt64SS. -/
import Derived.Test.YtbhkpnhlegiilaaGreatDoorProg
import Derived.Test.YtbhkpnhlegiilaaGreatDoorMem
import Derived.Test.YtbhkpnhlegiilaaGreatDoorMath
import Derived.Test.YtbhkpnhlegiilaaGreatDoorBasics
import Derived.Test.YtbhkpnhlegiilaaGreatDoorHelpI
import Derived.Test.YtbhkpnhlegiilaaGreatDoorGrid
import Derived.WalkKit
import Derived.BigQuiet
import Derived.BigRegion
import Derived.Deep.QuietTactic
import Derived.Lib.Hide
import Derived.Outline
set_option linter.unusedVariables false
set_option linter.unusedSimpArgs false
namespace Go.Proofs.YtbhkpnhlegiilaaGreatDoor
open Go.RowKit

end Go.Proofs.YtbhkpnhlegiilaaGreatDoor
