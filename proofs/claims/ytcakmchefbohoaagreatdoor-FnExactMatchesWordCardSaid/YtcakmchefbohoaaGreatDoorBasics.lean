/- Contracts: the small functions of layers 0 and 1 of the program and of the reference. -/
import Derived.Test.YtcakmchefbohoaaGreatDoorProg
import Derived.Test.YtcakmchefbohoaaGreatDoorMem
import Derived.Test.YtcakmchefbohoaaGreatDoorMath
import Derived.WalkKit
import Derived.BigQuiet
import Derived.Deep.QuietTactic
import Derived.Lib.Hide
import Derived.Outline
set_option linter.unusedVariables false
set_option linter.unusedSimpArgs false
namespace Go.Proofs.YtcakmchefbohoaaGreatDoor
open Go.RowKit

theorem within_any (n a b : Int) (w : World) : Calls Tryz.prog 78 #[.int .i64 n, .int .i64 a, .int .i64 b] w fun e w' => e = .returned (.bool (inR n a b)) ∧ w = w' := by
  go_enter Tryz.func78, Tryz.ntmps78
  go_wp2
  all_goals (go_ret; refine ⟨?_, rfl⟩; congr 2; simp [inR] <;> omega)
theorem l00In_any (n a b : Int) (w : World) : Calls Tryz.prog 65 #[.int .i64 n, .int .i64 a, .int .i64 b] w fun e w' => e = .returned (.bool (inR n a b)) ∧ w = w' := by
  go_enter Tryz.func65, Tryz.ntmps65
  go_wp2
  all_goals (go_ret; refine ⟨?_, rfl⟩; congr 2; simp [inR] <;> omega)
theorem isDigit_any (n : Int) (w : World) : Calls Tryz.prog 172 #[.int .u8 n] w fun e w' => e = .returned (.bool (digit n)) ∧ w = w' := by
  go_enter Tryz.func172, Tryz.ntmps172
  go_wp2
  all_goals (go_ret; refine ⟨?_, rfl⟩; congr 2; simp [digit] <;> omega)
theorem l01Small_any (n : Int) (w : World) : Calls Tryz.prog 171 #[.int .u8 n] w fun e w' => e = .returned (.bool (small n)) ∧ w = w' := by
  go_enter Tryz.func171, Tryz.ntmps171
  go_wp2
  all_goals (go_ret; refine ⟨?_, rfl⟩; congr 2; simp [small] <;> omega)
theorem l01Digit_any (n : Int) (w : World) : Calls Tryz.prog 93 #[.int .u8 n] w fun e w' => e = .returned (.bool (digit n)) ∧ w = w' := by
  go_enter Tryz.func93, Tryz.ntmps93
  go_wp2
  all_goals (go_ret; refine ⟨?_, rfl⟩; congr 2; simp [digit] <;> omega)
set_option maxHeartbeats 400000 in
theorem l01Name_any (s : ByteArray) (w : World) (hs : s.size ≤ 4611686018427387904) : Calls Tryz.prog 144 #[.string s] w fun e w' => e = .returned (.bool (isName s)) ∧ w = w' := by
  by_cases h0 : s.size = 0
  · have h1 := toList_nil h0
    have H : Hid (isName s = false) := Lib.hid (isName_long (Or.inl h0))
    clear h0
    go_enter Tryz.func144, Tryz.ntmps144
    go_wp2
    go_ret
    exact ⟨by rw [H.out]; rfl, rfl⟩
  have hne := toList_ne h0
  by_cases h1 : 10 < s.size
  · have H : Hid (isName s = false) := Lib.hid (isName_long (Or.inr h1))
    go_enter Tryz.func144, Tryz.ntmps144
    go_wp2
    all_goals first
      | (exfalso; have : (s.size : Int) ≤ 10 := by assumption
         omega)
      | (go_ret
         exact ⟨by rw [H.out]; rfl, rfl⟩)
  have hp : 0 < s.size := by omega
  have h10 : (s.size : Int) ≤ 10 := by omega
  have hc : (s[0].toNat : Int) = bt s 0 := bt_eq s 0 hp
  have hne2 : s.toList.isEmpty = false := by simpa using hne
  have h1d : decide ((10 : Int) < s.size) = false := by simp; omega
  clear h0 h1
  cases hsm : small (bt s 0) with
  | false =>
    have H : Hid (isName s = false) := Lib.hid (isName_bad 0 hp (nameAt_zero rfl hsm))
    go_enter Tryz.func144, Tryz.ntmps144
    go_wp2_with (go_at_call 171; refine (l01Small_any _ _).mono ?_; rintro e w' ⟨rfl, rfl⟩)
    go_ret
    exact ⟨by rw [H.out]; rfl, rfl⟩
  | true =>
    go_enter Tryz.func144, Tryz.ntmps144
    go_wp2_with (go_at_call 171; refine (l01Small_any _ _).mono ?_; rintro e w' ⟨rfl, rfl⟩)
    go_loop [3] (fun si => ∃ k : Nat, k ≤ s.size ∧ si = .int .i64 k ∧ Hid (∀ i, i < k → nameAt s i = true)) (fun si => s.size - (intOf si).toNat)
    case atStart => exact ⟨0, Nat.zero_le _, rfl, Lib.hid fun i h => absurd h (by omega)⟩
    case round =>
      obtain ⟨k, hk, rfl, hn⟩ := hrel
      by_cases hlt : k < s.size
      · have hck : (s[k].toNat : Int) = bt s k := bt_eq s k hlt
        have Hsm := Lib.hid hsm
        clear hc hsm
        cases hsk : small (bt s k) with
        | true =>
          have H : Hid (∀ i, i < k + 1 → nameAt s i = true) := Lib.hid (names_next hn.out (nameAt_small hsk))
          go_wp2_with (go_at_call 171; refine (l01Small_any _ _).mono ?_; rintro e w' ⟨rfl, rfl⟩)
          go_round
          case rel => exact ⟨k + 1, by omega, by go_num, H⟩
          case measure => simp [intOf]; omega
        | false =>
          cases hdk : digit (bt s k) with
          | true =>
            have hk0 : k ≠ 0 := fun e => by subst e; rw [Hsm.out] at hsk; cases hsk
            have H : Hid (∀ i, i < k + 1 → nameAt s i = true) := Lib.hid (names_next hn.out (nameAt_digit hk0 hdk))
            go_wp2_with (first | (go_at_call 171; refine (l01Small_any _ _).mono ?_; rintro e w' ⟨rfl, rfl⟩) | (go_at_call 93; refine (l01Digit_any _ _).mono ?_; rintro e w' ⟨rfl, rfl⟩))
            go_round
            case rel => exact ⟨k + 1, by omega, by go_num, H⟩
            case measure => simp [intOf]; omega
          | false =>
            have H : Hid (isName s = false) := Lib.hid (isName_bad k hlt (nameAt_none hsk hdk))
            go_wp2_with (first | (go_at_call 171; refine (l01Small_any _ _).mono ?_; rintro e w' ⟨rfl, rfl⟩) | (go_at_call 93; refine (l01Digit_any _ _).mono ?_; rintro e w' ⟨rfl, rfl⟩))
            go_ret
            exact ⟨by rw [H.out]; rfl, rfl⟩
      · go_wp2
        go_ret
        obtain rfl : k = s.size := by omega
        refine ⟨?_, rfl⟩
        rw [isName_size hn.out, decide_eq_true (show 1 ≤ s.size by omega), decide_eq_true (show s.size ≤ 10 by omega)]
        rfl
set_option maxHeartbeats 400000 in
theorem IsName_any (s : ByteArray) (w : World) (hs : s.size ≤ 4611686018427387904) : Calls Tryz.prog 151 #[.string s] w fun e w' => e = .returned (.bool (isName s)) ∧ w = w' := by
  go_enter Tryz.func151, Tryz.ntmps151
  go_wp2_with fail
  go_loop [7] (fun si => ∃ k : Nat, k ≤ s.size ∧ si = .int .i64 k ∧ Hid (∀ i, i < k → nameAt s i = true)) (fun si => s.size - (intOf si).toNat)
  case atStart => exact ⟨0, Nat.zero_le _, rfl, Lib.hid fun i h => absurd h (by omega)⟩
  case round =>
    obtain ⟨k, hk, rfl, hn⟩ := hrel
    by_cases hlt : k < s.size
    · have hck : (s[k].toNat : Int) = bt s k := bt_eq s k hlt
      cases hsk : small (bt s k) with
      | true =>
        have H : Hid (∀ i, i < k + 1 → nameAt s i = true) := Lib.hid (names_next hn.out (nameAt_small hsk))
        have h97 := ((small_iff _).1 hsk).1
        have h122 := ((small_iff _).1 hsk).2
        clear hsk
        go_wp2
        go_round
        case rel => exact ⟨k + 1, by omega, by go_num, H⟩
        case measure => simp [intOf]; omega
      | false =>
        by_cases hk0 : k = 0
        · subst hk0
          have H : Hid (isName s = false) := Lib.hid (isName_bad 0 hlt (nameAt_zero rfl hsk))
          have Hs : Hid (small (bt s 0) = false) := Lib.hid hsk
          clear hsk
          go_wp2
          all_goals first
            | (go_ret; exact ⟨by rw [H.out]; rfl, rfl⟩)
            | (exfalso; have h := Hs.out; simp [small] at h; simp_all <;> omega)
        · have hkb : ((k : Int) == 0) = false := by simp; omega
          cases hdk : digit (bt s k) with
          | true =>
            have H : Hid (∀ i, i < k + 1 → nameAt s i = true) := Lib.hid (names_next hn.out (nameAt_digit hk0 hdk))
            clear hk0
            go_wp2_with (go_at_call 172; refine (isDigit_any _ _).mono ?_; rintro e w' ⟨rfl, rfl⟩)
            all_goals
              go_round
              case rel => exact ⟨k + 1, by omega, by go_num, H⟩
              case measure => simp [intOf]; omega
          | false =>
            have H : Hid (isName s = false) := Lib.hid (isName_bad k hlt (nameAt_none hsk hdk))
            have Hs : Hid (small (bt s k) = false) := Lib.hid hsk
            clear hsk hk0
            go_wp2_with (go_at_call 172; refine (isDigit_any _ _).mono ?_; rintro e w' ⟨rfl, rfl⟩)
            all_goals first
              | (go_ret; exact ⟨by rw [H.out]; rfl, rfl⟩)
              | (exfalso; have h := Hs.out; simp [small] at h; simp_all <;> omega)
    · obtain rfl : k = s.size := by omega
      by_cases h1 : 1 ≤ s.size
      · have h1' : (1 : Int) ≤ s.size := by omega
        go_wp2
        all_goals
          go_ret
          refine ⟨?_, rfl⟩
          rw [isName_size hn.out, decide_eq_true h1]
          simp <;> omega
      · have h1' : ¬ (1 : Int) ≤ s.size := by omega
        go_wp2
        all_goals
          go_ret
          refine ⟨?_, rfl⟩
          rw [isName_size hn.out, decide_eq_false h1]
          rfl
theorem l01Action_any (s : ByteArray) (w : World) (hs : s.size ≤ 4611686018427387904) : Calls Tryz.prog 112 #[.string s] w fun e w' => e = .returned (.bool (isAction s)) ∧ w = w' := by
  go_enter Tryz.func112, Tryz.ntmps112
  go_wp2_with (go_at_call 144; refine (l01Name_any _ _ hs).mono ?_; rintro e w' ⟨rfl, rfl⟩)
  all_goals
    go_ret
    refine ⟨?_, rfl⟩
    simp_all [isAction, tauB]
theorem IsAction_any (s : ByteArray) (w : World) (hs : s.size ≤ 4611686018427387904) : Calls Tryz.prog 123 #[.string s] w fun e w' => e = .returned (.bool (isAction s)) ∧ w = w' := by
  go_enter Tryz.func123, Tryz.ntmps123
  go_wp2_with (go_at_call 151; refine (IsName_any _ _ hs).mono ?_; rintro e w' ⟨rfl, rfl⟩)
  all_goals
    go_ret
    refine ⟨?_, rfl⟩
    simp_all [isAction, tauB]
theorem isValue_any (n : Int) (w : World) : Calls Tryz.prog 202 #[.int .i64 n] w fun e w' => e = .returned (.bool (inR n 0 63)) ∧ w = w' := by
  go_enter Tryz.func202, Tryz.ntmps202
  go_wp2_with (go_at_call 78; refine (within_any _ _ _ _).mono ?_; rintro e w' ⟨rfl, rfl⟩)
  go_ret
  exact ⟨rfl, rfl⟩
end Go.Proofs.YtcakmchefbohoaaGreatDoor
