/- Contracts: lists of int64 held against each other: slices.Equal, slices.Compare, cmp.Compare, and the reference's. -/
import Derived.Test.YtapmnfmobigdkaaProg
import Derived.Test.YtapmnfmobigdkaaMem
import Derived.Test.YtapmnfmobigdkaaMath
import Derived.Test.YtapmnfmobigdkaaBasics
import Derived.WalkKit
import Derived.BigQuiet
import Derived.Deep.QuietTactic
import Derived.Lib.Hide
import Derived.Outline
set_option linter.unusedVariables false
set_option linter.unusedSimpArgs false
namespace Go.Proofs.Ytapmnfmobigdkaa
open Go.RowKit

theorem cmpL_nil_nil : cmpL [] [] = 0 := rfl
theorem cmpL_lt {a b : Int} (r q : List Int) (h : a < b) : cmpL (a :: r) (b :: q) = -1 := by simp [cmpL, h]
theorem cmpL_gt {a b : Int} (r q : List Int) (h : b < a) : cmpL (a :: r) (b :: q) = 1 := by simp [cmpL, h]; omega
theorem cmpL_eq {a b : Int} (r q : List Int) (h : a = b) : cmpL (a :: r) (b :: q) = cmpL r q := by simp [cmpL, h]
theorem cmpL_short {xs ys : List Int} {k : Nat} (h : cmpL xs ys = cmpL (xs.drop k) (ys.drop k)) (hx : k = xs.length) (hy : k < ys.length) : cmpL xs ys = -1 := by
  rw [h, List.drop_of_length_le (by omega : xs.length ≤ k), drop_nth ys k hy]
  rfl
theorem cmpL_long {xs ys : List Int} {k : Nat} (h : cmpL xs ys = cmpL (xs.drop k) (ys.drop k)) (hx : k < xs.length) (hy : k = ys.length) : cmpL xs ys = 1 := by
  rw [h, List.drop_of_length_le (by omega : ys.length ≤ k), drop_nth xs k hx]
  rfl
theorem cmpL_same {xs ys : List Int} {k : Nat} (h : cmpL xs ys = cmpL (xs.drop k) (ys.drop k)) (hx : k = xs.length) (hy : k = ys.length) : cmpL xs ys = 0 := by
  rw [h, List.drop_of_length_le (by omega : xs.length ≤ k), List.drop_of_length_le (by omega : ys.length ≤ k)]
  rfl
theorem cmpL_step {xs ys : List Int} {k : Nat} (h : cmpL xs ys = cmpL (xs.drop k) (ys.drop k)) (hx : k < xs.length) (hy : k < ys.length) :
    cmpL xs ys = if nth xs k < nth ys k then -1 else if nth ys k < nth xs k then 1 else cmpL (xs.drop (k + 1)) (ys.drop (k + 1)) := by
  rw [h, drop_nth xs k hx, drop_nth ys k hy]
  rfl
end Go.Proofs.Ytapmnfmobigdkaa
