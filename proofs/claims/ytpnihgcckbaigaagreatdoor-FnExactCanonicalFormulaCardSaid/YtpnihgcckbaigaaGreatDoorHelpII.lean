/- The laws' own helpers over slices of slices of int64: szInt64SS, toInt64SS, eqInt64SS, markInt64SS, heldInt64SS. -/
import Derived.Test.YtpnihgcckbaigaaGreatDoorProg
import Derived.Test.YtpnihgcckbaigaaGreatDoorMem
import Derived.Test.YtpnihgcckbaigaaGreatDoorMath
import Derived.Test.YtpnihgcckbaigaaGreatDoorBasics
import Derived.Test.YtpnihgcckbaigaaGreatDoorHelpI
import Derived.Test.YtpnihgcckbaigaaGreatDoorGrid
import Derived.WalkKit
import Derived.BigQuiet
import Derived.BigRegion
import Derived.Deep.QuietTactic
import Derived.Lib.Hide
import Derived.Outline
set_option linter.unusedVariables false
set_option linter.unusedSimpArgs false
namespace Go.Proofs.YtpnihgcckbaigaaGreatDoor
open Go.RowKit

end Go.Proofs.YtpnihgcckbaigaaGreatDoor
