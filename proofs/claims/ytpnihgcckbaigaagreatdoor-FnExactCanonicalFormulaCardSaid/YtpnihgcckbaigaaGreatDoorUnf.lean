/- Contracts: UnfoldFormula, of the program and of the reference. -/
import Derived.Test.YtpnihgcckbaigaaGreatDoorProg
import Derived.Test.YtpnihgcckbaigaaGreatDoorMem
import Derived.Test.YtpnihgcckbaigaaGreatDoorMath
import Derived.Test.YtpnihgcckbaigaaGreatDoorBasics
import Derived.Test.YtpnihgcckbaigaaGreatDoorOpenI
import Derived.Test.YtpnihgcckbaigaaGreatDoorHelpI
import Derived.Test.YtpnihgcckbaigaaGreatDoorGrid
import Derived.Test.YtpnihgcckbaigaaGreatDoorLab
import Derived.Test.YtpnihgcckbaigaaGreatDoorDec
import Derived.Test.YtpnihgcckbaigaaGreatDoorEnv
import Derived.Test.YtpnihgcckbaigaaGreatDoorNode
import Derived.Test.YtpnihgcckbaigaaGreatDoorNodeW
import Derived.Test.YtpnihgcckbaigaaGreatDoorVMod
import Derived.Test.YtpnihgcckbaigaaGreatDoorEnd
import Derived.Test.YtpnihgcckbaigaaGreatDoorBind
import Derived.Test.YtpnihgcckbaigaaGreatDoorVFor
import Derived.Test.YtpnihgcckbaigaaGreatDoorConc
import Derived.Test.YtpnihgcckbaigaaGreatDoorNds
import Derived.Test.YtpnihgcckbaigaaGreatDoorFreq
import Derived.Test.YtpnihgcckbaigaaGreatDoorInst
import Derived.WalkKit
import Derived.BigQuiet
import Derived.Maps.AppendAt
import Derived.Laws.OwnMore
import Derived.Lib.Hide
import Derived.Outline
set_option linter.unusedVariables false
set_option linter.unusedSimpArgs false
namespace Go.Proofs.YtpnihgcckbaigaaGreatDoor
open Go.RowKit

def unfC (f : List Nd) : Int := if validF f = true then (if isFix (ndnth f 0).kind = true then (if (putN f f).length ≤ 30 then 0 else 5) else 6) else 1
def unfO (f : List Nd) : List Nd := if unfC f = 0 then putN f f else []
theorem unfO_len (f : List Nd) : (unfO f).length ≤ 30 := by
  unfold unfO
  split
  · next h =>
    unfold unfC at h
    split at h
    · split at h
      · split at h
        · next h2 => exact h2
        · cases h
      · cases h
    · cases h
  · simp
theorem validF_parts {f : List Nd} (h : validF f = true) : 1 ≤ f.length ∧ f.length ≤ 30 ∧ shapeN f = true ∧ ∀ i, i < f.length → inR (ndnth f i).kind 0 8 = true := by
  unfold validF at h
  simp only [Bool.and_eq_true, decide_eq_true_eq] at h
  have h1 := inR_true h.1.1
  refine ⟨by omega, by omega, h.1.2, fun i hi => ?_⟩
  have h2 := h.2 i hi
  unfold nodeF at h2
  simp only [Bool.and_eq_true] at h2
  exact h2.1.1.1
end Go.Proofs.YtpnihgcckbaigaaGreatDoor
