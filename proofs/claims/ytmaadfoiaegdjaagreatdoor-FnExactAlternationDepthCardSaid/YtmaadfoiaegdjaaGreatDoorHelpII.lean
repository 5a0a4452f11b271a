/- The laws' own helpers over slices of slices of int64: szInt64SS, toInt64SS, eqInt64SS, markInt64SS, heldInt64SS. -/
import Derived.Test.YtmaadfoiaegdjaaGreatDoorProg
import Derived.Test.YtmaadfoiaegdjaaGreatDoorMem
import Derived.Test.YtmaadfoiaegdjaaGreatDoorMath
import Derived.Test.YtmaadfoiaegdjaaGreatDoorBasics
import Derived.Test.YtmaadfoiaegdjaaGreatDoorHelpI
import Derived.Test.YtmaadfoiaegdjaaGreatDoorGrid
import Derived.WalkKit
import Derived.BigQuiet
import Derived.BigRegion
import Derived.Deep.QuietTactic
import Derived.Lib.Hide
import Derived.Outline
set_option linter.unusedVariables false
set_option linter.unusedSimpArgs false
namespace Go.Proofs.YtmaadfoiaegdjaaGreatDoor
open Go.RowKit

end Go.Proofs.YtmaadfoiaegdjaaGreatDoor
