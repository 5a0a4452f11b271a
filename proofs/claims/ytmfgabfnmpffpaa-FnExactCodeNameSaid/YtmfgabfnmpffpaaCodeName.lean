/- Contracts of the two CodeName functions. -/
import Derived.Test.YtmfgabfnmpffpaaProg
import Derived.Test.YtmfgabfnmpffpaaMem
import Derived.Test.YtmfgabfnmpffpaaMath
import Derived.Test.YtmfgabfnmpffpaaBasics
import Derived.WalkKit
import Derived.BigQuiet
import Derived.Deep.QuietTactic
import Derived.Lib.Hide
import Derived.Outline
set_option linter.unusedVariables false
set_option linter.unusedSimpArgs false
namespace Go.Proofs.Ytmfgabfnmpffpaa
open Go.RowKit

def codeName (c : Int) : ByteArray :=
  if inR c 0 11 then
    ⟨([[111, 107], [105, 110, 118, 97, 108, 105, 100], [114, 97, 110, 103, 101], [110, 111, 116, 45, 102, 111, 117, 110, 100], [101, 120, 105, 115, 116, 115], [102, 117, 108, 108], [115, 116, 97, 116, 101], [111, 114, 100, 101, 114], [115, 121, 110, 116, 97, 120], [102, 111, 114, 109, 97, 116], [99, 104, 101, 99, 107, 115, 117, 109], [116, 114, 117, 110, 99, 97, 116, 101, 100]].getD c.toNat [] : List UInt8).toArray⟩
  else ByteArray.empty
theorem code_cases {c : Int} (h : inR c 0 11 = true) : c = 0 ∨ c = 1 ∨ c = 2 ∨ c = 3 ∨ c = 4 ∨ c = 5 ∨ c = 6 ∨ c = 7 ∨ c = 8 ∨ c = 9 ∨ c = 10 ∨ c = 11 := by
  have := inR_true h; omega
set_option maxHeartbeats 2000000 in
theorem CodeName_any (c : Int) (w : World) : Calls Try.prog 13 #[.int .i64 c] w fun e w' => e = .returned (.string (codeName c)) ∧ Below w.heap.size w w' := by
  cases h : inR c 0 11 with
  | false =>
    have H : Hid (codeName c = ByteArray.empty) := Lib.hid (by simp [codeName, h])
    go_enter Try.func13, Try.ntmps13
    go_wp2_with (go_at_call 33; refine (index_any _ _ _ (by omega) (by omega)).mono ?_; rintro e w' ⟨rfl, rfl⟩)
    go_ret
    exact ⟨by rw [H.out]; rfl, (Below.refl _ _).alloc (Nat.le_refl _) _⟩
  | true =>
    rcases code_cases h with rfl | rfl | rfl | rfl | rfl | rfl | rfl | rfl | rfl | rfl | rfl | rfl
    all_goals
      go_enter Try.func13, Try.ntmps13
      go_wp2_with (go_at_call 33; refine (index_any _ _ _ (by omega) (by omega)).mono ?_; rintro e w' ⟨rfl, rfl⟩)
      go_ret
      exact ⟨rfl, (Below.refl _ _).alloc (Nat.le_refl _) _⟩
set_option maxHeartbeats 2000000 in
theorem spec_CodeName_any (c : Int) (w : World) : Calls Try.prog 12 #[.int .i64 c] w fun e w' => e = .returned (.string (codeName c)) ∧ Below w.heap.size w w' := by
  cases h : inR c 0 11 with
  | false =>
    have H : Hid (codeName c = ByteArray.empty) := Lib.hid (by simp [codeName, h])
    go_enter Try.func12, Try.ntmps12
    go_wp2_with (go_at_call 32; refine (l00In_any _ _ _ _).mono ?_; rintro e w' ⟨rfl, rfl⟩)
    go_ret
    exact ⟨by rw [H.out]; rfl, (Below.refl _ _).alloc (Nat.le_refl _) _⟩
  | true =>
    rcases code_cases h with rfl | rfl | rfl | rfl | rfl | rfl | rfl | rfl | rfl | rfl | rfl | rfl
    all_goals
      go_enter Try.func12, Try.ntmps12
      go_wp2_with (go_at_call 32; refine (l00In_any _ _ _ _).mono ?_; rintro e w' ⟨rfl, rfl⟩)
      go_ret
      exact ⟨rfl, (Below.refl _ _).alloc (Nat.le_refl _) _⟩
end Go.Proofs.Ytmfgabfnmpffpaa
