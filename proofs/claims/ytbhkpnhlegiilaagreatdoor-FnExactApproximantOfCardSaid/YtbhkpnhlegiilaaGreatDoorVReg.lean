/- Contracts: whether a regular expression is valid, of the program and of the reference. -/
import Derived.Test.YtbhkpnhlegiilaaGreatDoorProg
import Derived.Test.YtbhkpnhlegiilaaGreatDoorMem
import Derived.Test.YtbhkpnhlegiilaaGreatDoorMath
import Derived.Test.YtbhkpnhlegiilaaGreatDoorBasics
import Derived.Test.YtbhkpnhlegiilaaGreatDoorOpenI
import Derived.Test.YtbhkpnhlegiilaaGreatDoorHelpI
import Derived.Test.YtbhkpnhlegiilaaGreatDoorGrid
import Derived.Test.YtbhkpnhlegiilaaGreatDoorText
import Derived.Test.YtbhkpnhlegiilaaGreatDoorLab
import Derived.Test.YtbhkpnhlegiilaaGreatDoorEnv
import Derived.Test.YtbhkpnhlegiilaaGreatDoorPart
import Derived.Test.YtbhkpnhlegiilaaGreatDoorRLab
import Derived.Test.YtbhkpnhlegiilaaGreatDoorReg
import Derived.Test.YtbhkpnhlegiilaaGreatDoorRegW
import Derived.WalkKit
import Derived.BigQuiet
import Derived.BigRegion
import Derived.Deep.QuietTactic
import Derived.Lib.Hide
import Derived.Outline
set_option linter.unusedVariables false
set_option linter.unusedSimpArgs false
namespace Go.Proofs.YtbhkpnhlegiilaaGreatDoor
open Go.RowKit

def bare (s : ByteArray) (neg : Bool) : Bool := decide (s.size = 0) && !neg
theorem size_empty {s : ByteArray} (h : s.size = 0) : s = ByteArray.empty := by
  have := nat0_none h
  rw [← ba_of s, this]; rfl
theorem pat_empty : patOk ByteArray.empty = true := by unfold patOk; rfl
end Go.Proofs.YtbhkpnhlegiilaaGreatDoor
