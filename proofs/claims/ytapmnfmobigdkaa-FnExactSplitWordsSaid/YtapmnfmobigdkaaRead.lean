/- Contracts: decimal numerals read, of the program and of the reference. -/
import Derived.Test.YtapmnfmobigdkaaProg
import Derived.Test.YtapmnfmobigdkaaMem
import Derived.Test.YtapmnfmobigdkaaMath
import Derived.Test.YtapmnfmobigdkaaBasics
import Derived.Test.YtapmnfmobigdkaaShelf
import Derived.Test.YtapmnfmobigdkaaDec
import Derived.Test.YtapmnfmobigdkaaNum
import Derived.WalkKit
import Derived.BigQuiet
import Derived.Lib.Hide
import Derived.Lib.AtoiErrMem
import Derived.Outline
set_option linter.unusedVariables false
set_option linter.unusedSimpArgs false
namespace Go.Proofs.Ytapmnfmobigdkaa
open Go.RowKit

def rdN (s : ByteArray) : Int := if canon s.data.toList = true then numV s.data.toList else 0
theorem ba_toList {x y : ByteArray} (h : x.toList = y.toList) : x = y := by
  have e : ∀ z : ByteArray, z.toList = z.data.toList := fun z => by rw [ByteArray.toList_eq]
  rw [e, e] at h
  exact ByteArray.ext (Array.toList_inj.1 h)
theorem parse_bd {l : List UInt8} {v : Int} (h : Lib.parseIntB 64 l = .ok v) : -9223372036854775808 ≤ v ∧ v ≤ 9223372036854775807 := by
  unfold Lib.parseIntB at h
  split at h
  · cases h
  · simp only at h
    split at h
    · cases h
    · cases h
    · split at h
      · cases h
      · split at h
        · cases h
        · injection h with h
          split at h <;> omega
--MARK l01Number
end Go.Proofs.Ytapmnfmobigdkaa
