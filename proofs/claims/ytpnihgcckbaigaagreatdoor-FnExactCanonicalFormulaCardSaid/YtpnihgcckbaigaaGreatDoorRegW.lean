/- The laws' own helpers over slices of Reg: sz, to, eq. -/
import Derived.Test.YtpnihgcckbaigaaGreatDoorProg
import Derived.Test.YtpnihgcckbaigaaGreatDoorMem
import Derived.Test.YtpnihgcckbaigaaGreatDoorMath
import Derived.Test.YtpnihgcckbaigaaGreatDoorOpenI
import Derived.Test.YtpnihgcckbaigaaGreatDoorHelpI
import Derived.Test.YtpnihgcckbaigaaGreatDoorGrid
import Derived.Test.YtpnihgcckbaigaaGreatDoorLab
import Derived.Test.YtpnihgcckbaigaaGreatDoorReg
import Derived.WalkKit
import Derived.BigQuiet
import Derived.BigRegion
import Derived.StillTailTactics
import Derived.Deep.QuietTactic
import Derived.Laws.ResultCell
import Derived.Laws.OwnMore
import Derived.Lib.Hide
import Derived.Outline
set_option linter.unusedVariables false
set_option linter.unusedSimpArgs false
namespace Go.Proofs.YtpnihgcckbaigaaGreatDoor
open Go.RowKit

def rgA (n : Rg) : Value := .agg #[.int .i64 n.kind, .string n.lab, .bool n.neg]
end Go.Proofs.YtpnihgcckbaigaaGreatDoor
