/- Contracts: a formula with nodes before and behind it, of the program and of the reference. -/
import Derived.Test.YtcakmchefbohoaaGreatDoorProg
import Derived.Test.YtcakmchefbohoaaGreatDoorMem
import Derived.Test.YtcakmchefbohoaaGreatDoorMath
import Derived.Test.YtcakmchefbohoaaGreatDoorBasics
import Derived.Test.YtcakmchefbohoaaGreatDoorOpenI
import Derived.Test.YtcakmchefbohoaaGreatDoorHelpI
import Derived.Test.YtcakmchefbohoaaGreatDoorGrid
import Derived.Test.YtcakmchefbohoaaGreatDoorLab
import Derived.Test.YtcakmchefbohoaaGreatDoorDec
import Derived.Test.YtcakmchefbohoaaGreatDoorEnv
import Derived.Test.YtcakmchefbohoaaGreatDoorNode
import Derived.Test.YtcakmchefbohoaaGreatDoorNodeW
import Derived.Test.YtcakmchefbohoaaGreatDoorVMod
import Derived.Test.YtcakmchefbohoaaGreatDoorEnd
import Derived.Test.YtcakmchefbohoaaGreatDoorBind
import Derived.Test.YtcakmchefbohoaaGreatDoorVFor
import Derived.Test.YtcakmchefbohoaaGreatDoorConc
import Derived.Test.YtcakmchefbohoaaGreatDoorNds
import Derived.WalkKit
import Derived.BigQuiet
import Derived.Maps.AppendAt
import Derived.Laws.OwnMore
import Derived.Lib.Hide
import Derived.Outline
set_option linter.unusedVariables false
set_option linter.unusedSimpArgs false
namespace Go.Proofs.YtcakmchefbohoaaGreatDoor
open Go.RowKit

def nk (k : Int) : Nd := ⟨k, 0, ByteArray.empty, false⟩
def frCode (bf f bh : List Nd) : Int := if validF f = true then (if (bf ++ (f ++ bh)).length ≤ 30 then 0 else 5) else 1
def frOut (bf f bh : List Nd) : List Nd := if frCode bf f bh = 0 then bf ++ (f ++ bh) else []
theorem frOut_len (bf f bh : List Nd) : (frOut bf f bh).length ≤ 30 := by
  unfold frOut
  split
  · next h =>
    unfold frCode at h
    split at h
    · split at h
      · next h2 => exact h2
      · cases h
    · cases h
  · simp
theorem validF_len {f : List Nd} (h : validF f = true) : f.length ≤ 30 := by
  unfold validF at h
  simp only [Bool.and_eq_true] at h
  have := inR_true h.1.1
  omega
end Go.Proofs.YtcakmchefbohoaaGreatDoor
