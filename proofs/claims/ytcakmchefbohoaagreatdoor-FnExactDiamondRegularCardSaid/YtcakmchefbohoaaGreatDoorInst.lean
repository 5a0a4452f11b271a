/- Contracts: a fixed point with its variable replaced, of the program and of the reference. -/
import Derived.Test.YtcakmchefbohoaaGreatDoorProg
import Derived.Test.YtcakmchefbohoaaGreatDoorMem
import Derived.Test.YtcakmchefbohoaaGreatDoorMath
import Derived.Test.YtcakmchefbohoaaGreatDoorBasics
import Derived.Test.YtcakmchefbohoaaGreatDoorOpenI
import Derived.Test.YtcakmchefbohoaaGreatDoorHelpI
import Derived.Test.YtcakmchefbohoaaGreatDoorGrid
import Derived.Test.YtcakmchefbohoaaGreatDoorLab
import Derived.Test.YtcakmchefbohoaaGreatDoorDec
import Derived.Test.YtcakmchefbohoaaGreatDoorEnv
import Derived.Test.YtcakmchefbohoaaGreatDoorNode
import Derived.Test.YtcakmchefbohoaaGreatDoorNodeW
import Derived.Test.YtcakmchefbohoaaGreatDoorVMod
import Derived.Test.YtcakmchefbohoaaGreatDoorEnd
import Derived.Test.YtcakmchefbohoaaGreatDoorBind
import Derived.Test.YtcakmchefbohoaaGreatDoorVFor
import Derived.Test.YtcakmchefbohoaaGreatDoorConc
import Derived.Test.YtcakmchefbohoaaGreatDoorNds
import Derived.Test.YtcakmchefbohoaaGreatDoorFreq
import Derived.WalkKit
import Derived.BigQuiet
import Derived.Maps.AppendAt
import Derived.Laws.OwnMore
import Derived.Lib.Hide
import Derived.Outline
set_option linter.unusedVariables false
set_option linter.unusedSimpArgs false
namespace Go.Proofs.YtcakmchefbohoaaGreatDoor
open Go.RowKit

def putHit (f : List Nd) (k : Nat) : Bool := decide ((ndnth f k).kind = 6) && decide (bindN f k = 0)
def putTo (f g : List Nd) : Nat → List Nd
  | 0 => []
  | k + 1 => putTo f g k ++ (if k = 0 then [] else if putHit f k = true then g else [ndnth f k])
def putN (f g : List Nd) : List Nd := putTo f g f.length
theorem putTo_one (f g : List Nd) : putTo f g 1 = [] := rfl
theorem putTo_hit {f g : List Nd} {k : Nat} (h1 : 1 ≤ k) (h : putHit f k = true) : putTo f g (k + 1) = putTo f g k ++ g := by
  rw [putTo, if_neg (by omega), if_pos h]
theorem putTo_miss {f g : List Nd} {k : Nat} (h1 : 1 ≤ k) (h : putHit f k = false) : putTo f g (k + 1) = putTo f g k ++ [ndnth f k] := by
  rw [putTo, if_neg (by omega), if_neg (by rw [h]; decide)]
theorem rd_one (w : World) (x : Nd) (T : Nat) : RdNd (w.alloc (.cells #[.int .i64 x.kind, .int .i64 x.var, .string x.lab, .bool x.neg] T)) (.slice (some ⟨w.heap.size, 0, none⟩) 1 1) [x] := by
  refine ⟨_, 1, rfl, Nat.le_refl _, by unfold maxLen; omega, fun h0 => ⟨_, 0, rfl, by simp, fun i hi => ?_⟩⟩
  rw [cell_of_row _ _ _ _ _ _ (heap_alloc_new w _), Nat.zero_add]
  have h1 := ndCells_get [x] hi
  rw [ndCells_single] at h1
  simpa using h1
theorem own_still {w w' : World} {base n : Nat} {v : Value} {xs : List Value} (h : w.ownsRow base 65 4 v n xs) (hb : Below w.heap.size w w') : w'.ownsRow base 65 4 v n xs := ownsRow_below h hb
end Go.Proofs.YtcakmchefbohoaaGreatDoor
