/- Contracts: the small functions of layers 0 and 1 of the program and of the reference. -/
import Derived.Test.YtcakmchefbohoaaDoorProg
import Derived.Test.YtcakmchefbohoaaDoorMem
import Derived.Test.YtcakmchefbohoaaDoorMath
import Derived.WalkKit
import Derived.BigQuiet
import Derived.Deep.QuietTactic
import Derived.Lib.Hide
import Derived.Outline
set_option linter.unusedVariables false
set_option linter.unusedSimpArgs false
namespace Go.Proofs.YtcakmchefbohoaaDoor
open Go.RowKit

theorem within_any (n a b : Int) (w : World) : Calls Tryd.prog 32 #[.int .i64 n, .int .i64 a, .int .i64 b] w fun e w' => e = .returned (.bool (inR n a b)) ∧ w = w' := by
  go_enter Tryd.func32, Tryd.ntmps32
  go_wp2
  all_goals (go_ret; refine ⟨?_, rfl⟩; congr 2; simp [inR] <;> omega)
theorem isDigit_any (n : Int) (w : World) : Calls Tryd.prog 20 #[.int .u8 n] w fun e w' => e = .returned (.bool (digit n)) ∧ w = w' := by
  go_enter Tryd.func20, Tryd.ntmps20
  go_wp2
  all_goals (go_ret; refine ⟨?_, rfl⟩; congr 2; simp [digit] <;> omega)
theorem l01Digit_any (n : Int) (w : World) : Calls Tryd.prog 16 #[.int .u8 n] w fun e w' => e = .returned (.bool (digit n)) ∧ w = w' := by
  go_enter Tryd.func16, Tryd.ntmps16
  go_wp2
  all_goals (go_ret; refine ⟨?_, rfl⟩; congr 2; simp [digit] <;> omega)
end Go.Proofs.YtcakmchefbohoaaDoor
