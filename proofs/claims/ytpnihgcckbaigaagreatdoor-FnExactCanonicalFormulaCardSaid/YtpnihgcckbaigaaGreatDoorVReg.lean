/- Contracts: whether a regular expression is valid, of the program and of the reference. -/
import Derived.Test.YtpnihgcckbaigaaGreatDoorProg
import Derived.Test.YtpnihgcckbaigaaGreatDoorMem
import Derived.Test.YtpnihgcckbaigaaGreatDoorMath
import Derived.Test.YtpnihgcckbaigaaGreatDoorBasics
import Derived.Test.YtpnihgcckbaigaaGreatDoorOpenI
import Derived.Test.YtpnihgcckbaigaaGreatDoorHelpI
import Derived.Test.YtpnihgcckbaigaaGreatDoorGrid
import Derived.Test.YtpnihgcckbaigaaGreatDoorText
import Derived.Test.YtpnihgcckbaigaaGreatDoorLab
import Derived.Test.YtpnihgcckbaigaaGreatDoorEnv
import Derived.Test.YtpnihgcckbaigaaGreatDoorPart
import Derived.Test.YtpnihgcckbaigaaGreatDoorRLab
import Derived.Test.YtpnihgcckbaigaaGreatDoorReg
import Derived.Test.YtpnihgcckbaigaaGreatDoorRegW
import Derived.WalkKit
import Derived.BigQuiet
import Derived.BigRegion
import Derived.Deep.QuietTactic
import Derived.Lib.Hide
import Derived.Outline
set_option linter.unusedVariables false
set_option linter.unusedSimpArgs false
namespace Go.Proofs.YtpnihgcckbaigaaGreatDoor
open Go.RowKit

def bare (s : ByteArray) (neg : Bool) : Bool := decide (s.size = 0) && !neg
theorem size_empty {s : ByteArray} (h : s.size = 0) : s = ByteArray.empty := by
  have := nat0_none h
  rw [← ba_of s, this]; rfl
theorem pat_empty : patOk ByteArray.empty = true := by unfold patOk; rfl
end Go.Proofs.YtpnihgcckbaigaaGreatDoor
