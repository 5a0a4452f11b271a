/- Contracts: the small functions of layers 0 and 1 of the program and of the reference. -/
import Derived.Test.YtmfgabfnmpffpaaProg
import Derived.Test.YtmfgabfnmpffpaaMem
import Derived.Test.YtmfgabfnmpffpaaMath
import Derived.WalkKit
import Derived.BigQuiet
import Derived.Deep.QuietTactic
import Derived.Lib.Hide
import Derived.Outline
set_option linter.unusedVariables false
set_option linter.unusedSimpArgs false
namespace Go.Proofs.Ytmfgabfnmpffpaa
open Go.RowKit

theorem within_any (n a b : Int) (w : World) : Calls Try.prog 38 #[.int .i64 n, .int .i64 a, .int .i64 b] w fun e w' => e = .returned (.bool (inR n a b)) ∧ w = w' := by
  go_enter Try.func38, Try.ntmps38
  go_wp2
  all_goals (go_ret; refine ⟨?_, rfl⟩; congr 2; simp [inR] <;> omega)
theorem l00In_any (n a b : Int) (w : World) : Calls Try.prog 32 #[.int .i64 n, .int .i64 a, .int .i64 b] w fun e w' => e = .returned (.bool (inR n a b)) ∧ w = w' := by
  go_enter Try.func32, Try.ntmps32
  go_wp2
  all_goals (go_ret; refine ⟨?_, rfl⟩; congr 2; simp [inR] <;> omega)
theorem index_any (i n : Int) (w : World) (h0 : 0 ≤ n) (h1 : n ≤ 4611686018427387904) : Calls Try.prog 33 #[.int .i64 i, .int .i64 n] w fun e w' => e = .returned (.bool (inR i 0 (n - 1))) ∧ w = w' := by
  go_enter Try.func33, Try.ntmps33
  go_wp2_with (go_at_call 38; refine (within_any _ _ _ _).mono ?_; rintro e w' ⟨rfl, rfl⟩)
  go_ret
  exact ⟨rfl, rfl⟩
theorem isDigit_any (n : Int) (w : World) : Calls Try.prog 35 #[.int .u8 n] w fun e w' => e = .returned (.bool (digit n)) ∧ w = w' := by
  go_enter Try.func35, Try.ntmps35
  go_wp2
  all_goals (go_ret; refine ⟨?_, rfl⟩; congr 2; simp [digit] <;> omega)
theorem l01Small_any (n : Int) (w : World) : Calls Try.prog 49 #[.int .u8 n] w fun e w' => e = .returned (.bool (small n)) ∧ w = w' := by
  go_enter Try.func49, Try.ntmps49
  go_wp2
  all_goals (go_ret; refine ⟨?_, rfl⟩; congr 2; simp [small] <;> omega)
theorem l01Digit_any (n : Int) (w : World) : Calls Try.prog 50 #[.int .u8 n] w fun e w' => e = .returned (.bool (digit n)) ∧ w = w' := by
  go_enter Try.func50, Try.ntmps50
  go_wp2
  all_goals (go_ret; refine ⟨?_, rfl⟩; congr 2; simp [digit] <;> omega)
set_option maxHeartbeats 400000 in
theorem l01Name_any (s : ByteArray) (w : World) (hs : s.size ≤ 4611686018427387904) : Calls Try.prog 34 #[.string s] w fun e w' => e = .returned (.bool (isName s)) ∧ w = w' := by
  by_cases h0 : s.size = 0
  · have h1 := toList_nil h0
    have H : Hid (isName s = false) := Lib.hid (isName_long (Or.inl h0))
    clear h0
    go_enter Try.func34, Try.ntmps34
    go_wp2
    go_ret
    exact ⟨by rw [H.out]; rfl, rfl⟩
  have hne := toList_ne h0
  by_cases h1 : 10 < s.size
  · have H : Hid (isName s = false) := Lib.hid (isName_long (Or.inr h1))
    go_enter Try.func34, Try.ntmps34
    go_wp2
    all_goals first
      | (exfalso; have : (s.size : Int) ≤ 10 := by assumption
         omega)
      | (go_ret
         exact ⟨by rw [H.out]; rfl, rfl⟩)
  have hp : 0 < s.size := by omega
  have h10 : (s.size : Int) ≤ 10 := by omega
  have hc : (s[0].toNat : Int) = bt s 0 := bt_eq s 0 hp
  have hne2 : s.toList.isEmpty = false := by simpa using hne
  have h1d : decide ((10 : Int) < s.size) = false := by simp; omega
  clear h0 h1
  cases hsm : small (bt s 0) with
  | false =>
    have H : Hid (isName s = false) := Lib.hid (isName_bad 0 hp (nameAt_zero rfl hsm))
    go_enter Try.func34, Try.ntmps34
    go_wp2_with (go_at_call 49; refine (l01Small_any _ _).mono ?_; rintro e w' ⟨rfl, rfl⟩)
    go_ret
    exact ⟨by rw [H.out]; rfl, rfl⟩
  | true =>
    go_enter Try.func34, Try.ntmps34
    go_wp2_with (go_at_call 49; refine (l01Small_any _ _).mono ?_; rintro e w' ⟨rfl, rfl⟩)
    go_loop [3] (fun si => ∃ k : Nat, k ≤ s.size ∧ si = .int .i64 k ∧ Hid (∀ i, i < k → nameAt s i = true)) (fun si => s.size - (intOf si).toNat)
    case atStart => exact ⟨0, Nat.zero_le _, rfl, Lib.hid fun i h => absurd h (by omega)⟩
    case round =>
      obtain ⟨k, hk, rfl, hn⟩ := hrel
      by_cases hlt : k < s.size
      · have hck : (s[k].toNat : Int) = bt s k := bt_eq s k hlt
        have Hsm := Lib.hid hsm
        clear hc hsm
        cases hsk : small (bt s k) with
        | true =>
          have H : Hid (∀ i, i < k + 1 → nameAt s i = true) := Lib.hid (names_next hn.out (nameAt_small hsk))
          go_wp2_with (go_at_call 49; refine (l01Small_any _ _).mono ?_; rintro e w' ⟨rfl, rfl⟩)
          go_round
          case rel => exact ⟨k + 1, by omega, by go_num, H⟩
          case measure => simp [intOf]; omega
        | false =>
          cases hdk : digit (bt s k) with
          | true =>
            have hk0 : k ≠ 0 := fun e => by subst e; rw [Hsm.out] at hsk; cases hsk
            have H : Hid (∀ i, i < k + 1 → nameAt s i = true) := Lib.hid (names_next hn.out (nameAt_digit hk0 hdk))
            go_wp2_with (first | (go_at_call 49; refine (l01Small_any _ _).mono ?_; rintro e w' ⟨rfl, rfl⟩) | (go_at_call 50; refine (l01Digit_any _ _).mono ?_; rintro e w' ⟨rfl, rfl⟩))
            go_round
            case rel => exact ⟨k + 1, by omega, by go_num, H⟩
            case measure => simp [intOf]; omega
          | false =>
            have H : Hid (isName s = false) := Lib.hid (isName_bad k hlt (nameAt_none hsk hdk))
            go_wp2_with (first | (go_at_call 49; refine (l01Small_any _ _).mono ?_; rintro e w' ⟨rfl, rfl⟩) | (go_at_call 50; refine (l01Digit_any _ _).mono ?_; rintro e w' ⟨rfl, rfl⟩))
            go_ret
            exact ⟨by rw [H.out]; rfl, rfl⟩
      · go_wp2
        go_ret
        obtain rfl : k = s.size := by omega
        refine ⟨?_, rfl⟩
        rw [isName_size hn.out, decide_eq_true (show 1 ≤ s.size by omega), decide_eq_true (show s.size ≤ 10 by omega)]
        rfl
set_option maxHeartbeats 400000 in
theorem IsName_any (s : ByteArray) (w : World) (hs : s.size ≤ 4611686018427387904) : Calls Try.prog 15 #[.string s] w fun e w' => e = .returned (.bool (isName s)) ∧ w = w' := by
  go_enter Try.func15, Try.ntmps15
  go_wp2_with fail
  go_loop [7] (fun si => ∃ k : Nat, k ≤ s.size ∧ si = .int .i64 k ∧ Hid (∀ i, i < k → nameAt s i = true)) (fun si => s.size - (intOf si).toNat)
  case atStart => exact ⟨0, Nat.zero_le _, rfl, Lib.hid fun i h => absurd h (by omega)⟩
  case round =>
    obtain ⟨k, hk, rfl, hn⟩ := hrel
    by_cases hlt : k < s.size
    · have hck : (s[k].toNat : Int) = bt s k := bt_eq s k hlt
      cases hsk : small (bt s k) with
      | true =>
        have H : Hid (∀ i, i < k + 1 → nameAt s i = true) := Lib.hid (names_next hn.out (nameAt_small hsk))
        have h97 := ((small_iff _).1 hsk).1
        have h122 := ((small_iff _).1 hsk).2
        clear hsk
        go_wp2
        go_round
        case rel => exact ⟨k + 1, by omega, by go_num, H⟩
        case measure => simp [intOf]; omega
      | false =>
        by_cases hk0 : k = 0
        · subst hk0
          have H : Hid (isName s = false) := Lib.hid (isName_bad 0 hlt (nameAt_zero rfl hsk))
          have Hs : Hid (small (bt s 0) = false) := Lib.hid hsk
          clear hsk
          go_wp2
          all_goals first
            | (go_ret; exact ⟨by rw [H.out]; rfl, rfl⟩)
            | (exfalso; have h := Hs.out; simp [small] at h; simp_all <;> omega)
        · have hkb : ((k : Int) == 0) = false := by simp; omega
          cases hdk : digit (bt s k) with
          | true =>
            have H : Hid (∀ i, i < k + 1 → nameAt s i = true) := Lib.hid (names_next hn.out (nameAt_digit hk0 hdk))
            clear hk0
            go_wp2_with (go_at_call 35; refine (isDigit_any _ _).mono ?_; rintro e w' ⟨rfl, rfl⟩)
            all_goals
              go_round
              case rel => exact ⟨k + 1, by omega, by go_num, H⟩
              case measure => simp [intOf]; omega
          | false =>
            have H : Hid (isName s = false) := Lib.hid (isName_bad k hlt (nameAt_none hsk hdk))
            have Hs : Hid (small (bt s k) = false) := Lib.hid hsk
            clear hsk hk0
            go_wp2_with (go_at_call 35; refine (isDigit_any _ _).mono ?_; rintro e w' ⟨rfl, rfl⟩)
            all_goals first
              | (go_ret; exact ⟨by rw [H.out]; rfl, rfl⟩)
              | (exfalso; have h := Hs.out; simp [small] at h; simp_all <;> omega)
    · obtain rfl : k = s.size := by omega
      by_cases h1 : 1 ≤ s.size
      · have h1' : (1 : Int) ≤ s.size := by omega
        go_wp2
        all_goals
          go_ret
          refine ⟨?_, rfl⟩
          rw [isName_size hn.out, decide_eq_true h1]
          simp <;> omega
      · have h1' : ¬ (1 : Int) ≤ s.size := by omega
        go_wp2
        all_goals
          go_ret
          refine ⟨?_, rfl⟩
          rw [isName_size hn.out, decide_eq_false h1]
          rfl
theorem spec_IsName_any (s : ByteArray) (w : World) (hs : s.size ≤ 4611686018427387904) : Calls Try.prog 14 #[.string s] w fun e w' => e = .returned (.bool (isName s)) ∧ w = w' := by
  go_enter Try.func14, Try.ntmps14
  go_wp2_with (go_at_call 34; refine (l01Name_any _ _ hs).mono ?_; rintro e w' ⟨rfl, rfl⟩)
  go_ret
  exact ⟨rfl, rfl⟩
theorem l01Action_any (s : ByteArray) (w : World) (hs : s.size ≤ 4611686018427387904) : Calls Try.prog 36 #[.string s] w fun e w' => e = .returned (.bool (isAction s)) ∧ w = w' := by
  go_enter Try.func36, Try.ntmps36
  go_wp2_with (go_at_call 34; refine (l01Name_any _ _ hs).mono ?_; rintro e w' ⟨rfl, rfl⟩)
  all_goals
    go_ret
    refine ⟨?_, rfl⟩
    simp_all [isAction, tauB]
theorem IsAction_any (s : ByteArray) (w : World) (hs : s.size ≤ 4611686018427387904) : Calls Try.prog 17 #[.string s] w fun e w' => e = .returned (.bool (isAction s)) ∧ w = w' := by
  go_enter Try.func17, Try.ntmps17
  go_wp2_with (go_at_call 15; refine (IsName_any _ _ hs).mono ?_; rintro e w' ⟨rfl, rfl⟩)
  all_goals
    go_ret
    refine ⟨?_, rfl⟩
    simp_all [isAction, tauB]
theorem i64_wrap_small (n : Int) (h0 : 0 ≤ n) (h1 : n < 2 ^ 17) : IntKind.i64.wrap n = n := by rw [IntKind.wrap_i64]; omega
theorem bits_xor_nat (a b : Nat) (ha : a < 2 ^ 17) (hb : b < 2 ^ 17) : bits .xor .i64 a b = ((a ^^^ b : Nat) : Int) := by
  have hp : 2 ^ 17 ≤ 2 ^ IntKind.i64.bits := Nat.pow_le_pow_right (by decide) (by decide)
  have ha' : a % 2 ^ IntKind.i64.bits = a := Nat.mod_eq_of_lt (Nat.lt_of_lt_of_le ha hp)
  have hb' : b % 2 ^ IntKind.i64.bits = b := Nat.mod_eq_of_lt (Nat.lt_of_lt_of_le hb hp)
  simp only [bits, BitVec.ofInt_natCast, BitVec.toNat_xor, BitVec.toNat_ofNat, ha', hb']
  have := Nat.xor_lt_two_pow ha hb
  exact i64_wrap_small _ (Int.natCast_nonneg _) (by omega)
theorem bits_crcX {d : Nat} {b : Int} (hd : d < 65536) (h0 : 0 ≤ b) (h1 : b ≤ 255) : bits .xor .i64 (d : Int) (b * 256) = ((crcX d b : Nat) : Int) := by
  obtain ⟨n, rfl⟩ := Int.eq_ofNat_of_zero_le h0
  have := bits_xor_nat d (n * 256) (by omega) (by omega)
  simp only [Int.natCast_mul] at this
  unfold crcX
  rw [Int.toNat_natCast]
  exact this
theorem bits_crcIn {f : Nat} (hf : f < 65536) (h : 65535 < f * 2) : bits .xor .i64 (bits .and .i64 ((f : Int) * 2) 65535) 4129 = ((crcIn f : Nat) : Int) := by
  have h1 := (bits_nat .i64 17 (by decide) i64_wrap_small (f * 2) 65535 (by omega) (by omega)).1
  have hlt : (f * 2) &&& 65535 < 65536 := Nat.and_lt_two_pow (n := 16) _ (by decide)
  have h2 := bits_xor_nat ((f * 2) &&& 65535) 4129 (by omega) (by omega)
  simp only [Int.natCast_mul] at h1
  unfold crcIn
  rw [if_pos h]
  exact (congrArg (fun x => bits .xor .i64 x 4129) h1).trans h2
theorem crcIn_small {f : Nat} (h : ¬ 65535 < f * 2) : ((crcIn f : Nat) : Int) = (f : Int) * 2 := by unfold crcIn; rw [if_neg h]; omega
set_option maxHeartbeats 400000 in
theorem l01Crc_any (s : ByteArray) (c : Nat) (w : World) (hs : s.size ≤ 4611686018427387904) (h1 : c < 65536) : Calls Try.prog 37 #[.string s, .int .i64 c] w fun e w' => e = .returned (.int .i64 (crcTo s c s.size)) ∧ w = w' := by
  go_enter Try.func37, Try.ntmps37
  go_wp2
  go_loop [1, 5] (fun sc si => ∃ k : Nat, k ≤ s.size ∧ si = .int .i64 k ∧ sc = .int .i64 (crcTo s c k)) (fun _ si => s.size - (intOf si).toNat)
  case atStart => exact ⟨0, Nat.zero_le _, rfl, rfl⟩
  case round =>
    obtain ⟨k, hk, rfl, rfl⟩ := hrel
    by_cases hlt : k < s.size
    · have hck : (s[k].toNat : Int) = bt s k := bt_eq s k hlt
      have hb0 := bt_lo s k
      have hb1 := bt_hi s k
      obtain ⟨d, hd⟩ : ∃ d, d = crcTo s c k := ⟨_, rfl⟩
      have hdl : d < 65536 := by rw [hd]; exact crcTo_lt s k h1
      rw [← hd]
      have Hd := Lib.hid hd; clear hd
      go_wp2
      go_loop [1, 6] (fun sc sj => ∃ j : Nat, j ≤ 8 ∧ sj = .int .i64 j ∧ sc = .int .i64 (crcN j (crcX d (bt s k)))) (fun _ sj => 8 - (intOf sj).toNat)
      case atStart => exact ⟨0, by omega, rfl, congrArg (Value.int .i64) (bits_crcX hdl hb0 hb1)⟩
      case round =>
        obtain ⟨j, hj, rfl, rfl⟩ := hrel
        obtain ⟨f, hf⟩ : ∃ f, f = crcN j (crcX d (bt s k)) := ⟨_, rfl⟩
        have hfl : f < 65536 := by rw [hf]; exact crcN_lt j (crcX_lt hdl hb1)
        rw [← hf]
        have Hf := Lib.hid hf; clear hf
        by_cases h8 : j < 8
        · have Hn : Hid (crcN (j + 1) (crcX d (bt s k)) = crcIn f) := Lib.hid (by rw [Hf.out]; rfl)
          by_cases h6 : 65535 < f * 2
          · have h6' : (65535 : Int) < f * 2 := by omega
            go_wp2
            go_round
            case rel => exact ⟨j + 1, by omega, by go_num, by rw [Hn.out]; exact congrArg (Value.int .i64) (bits_crcIn hfl h6)⟩
            case measure => simp [intOf]; omega
          · have h6' : ¬ (65535 : Int) < f * 2 := by omega
            go_wp2
            go_round
            case rel => exact ⟨j + 1, by omega, by go_num, by rw [Hn.out, crcIn_small h6]⟩
            case measure => simp [intOf]; omega
        · obtain rfl : j = 8 := by omega
          go_wp2
          go_round
          case rel => exact ⟨k + 1, by omega, by go_num, by rw [Hf.out, Hd.out]; rfl⟩
          case measure => simp [intOf]; omega
    · go_wp2
      go_ret
      obtain rfl : k = s.size := by omega
      exact ⟨rfl, rfl⟩
set_option maxHeartbeats 400000 in
theorem Crc16_any (s : ByteArray) (c : Nat) (w : World) (hs : s.size ≤ 4611686018427387904) (h1 : c < 65536) : Calls Try.prog 19 #[.string s, .int .i64 c] w fun e w' => e = .returned (.int .i64 (crcTo s c s.size)) ∧ w = w' := by
  have hr := inR_mk (n := c) (a := 0) (b := 65535) (by omega) (by omega)
  go_enter Try.func19, Try.ntmps19
  go_wp2_with (go_at_call 38; refine (within_any _ _ _ _).mono ?_; rintro e w' ⟨rfl, rfl⟩)
  go_loop [5, 13] (fun sc si => ∃ k : Nat, k ≤ s.size ∧ si = .int .i64 k ∧ sc = .int .i64 (crcTo s c k)) (fun _ si => s.size - (intOf si).toNat)
  case atStart => exact ⟨0, Nat.zero_le _, rfl, rfl⟩
  case round =>
    obtain ⟨k, hk, rfl, rfl⟩ := hrel
    by_cases hlt : k < s.size
    · have hck : (s[k].toNat : Int) = bt s k := bt_eq s k hlt
      have hb0 := bt_lo s k
      have hb1 := bt_hi s k
      obtain ⟨d, hd⟩ : ∃ d, d = crcTo s c k := ⟨_, rfl⟩
      have hdl : d < 65536 := by rw [hd]; exact crcTo_lt s k h1
      rw [← hd]
      have Hd := Lib.hid hd; clear hd
      go_wp2
      go_loop [5, 23] (fun sc sj => ∃ j : Nat, j ≤ 8 ∧ sj = .int .i64 j ∧ sc = .int .i64 (crcN j (crcX d (bt s k)))) (fun _ sj => 8 - (intOf sj).toNat)
      case atStart => exact ⟨0, by omega, rfl, congrArg (Value.int .i64) (bits_crcX hdl hb0 hb1)⟩
      case round =>
        obtain ⟨j, hj, rfl, rfl⟩ := hrel
        obtain ⟨f, hf⟩ : ∃ f, f = crcN j (crcX d (bt s k)) := ⟨_, rfl⟩
        have hfl : f < 65536 := by rw [hf]; exact crcN_lt j (crcX_lt hdl hb1)
        rw [← hf]
        have Hf := Lib.hid hf; clear hf
        by_cases h8 : j < 8
        · have Hn : Hid (crcN (j + 1) (crcX d (bt s k)) = crcIn f) := Lib.hid (by rw [Hf.out]; rfl)
          by_cases h6 : 65535 < f * 2
          · have h6' : (65535 : Int) < f * 2 := by omega
            go_wp2
            go_round
            case rel => exact ⟨j + 1, by omega, by go_num, by rw [Hn.out]; exact congrArg (Value.int .i64) (bits_crcIn hfl h6)⟩
            case measure => simp [intOf]; omega
          · have h6' : ¬ (65535 : Int) < f * 2 := by omega
            go_wp2
            go_round
            case rel => exact ⟨j + 1, by omega, by go_num, by rw [Hn.out, crcIn_small h6]⟩
            case measure => simp [intOf]; omega
        · obtain rfl : j = 8 := by omega
          go_wp2
          go_round
          case rel => exact ⟨k + 1, by omega, by go_num, by rw [Hf.out, Hd.out]; rfl⟩
          case measure => simp [intOf]; omega
    · go_wp2
      go_ret
      obtain rfl : k = s.size := by omega
      exact ⟨rfl, rfl⟩
theorem Crc16_bad (s : ByteArray) (c : Int) (w : World) (h1 : inR c 0 65535 = false) : Calls Try.prog 19 #[.string s, .int .i64 c] w fun e w' => e = .returned (.int .i64 0) ∧ w = w' := by
  go_enter Try.func19, Try.ntmps19
  go_wp2_with (go_at_call 38; refine (within_any _ _ _ _).mono ?_; rintro e w' ⟨rfl, rfl⟩)
  go_ret
  exact ⟨rfl, rfl⟩
theorem spec_Crc16_any (s : ByteArray) (c : Nat) (w : World) (hs : s.size ≤ 4611686018427387904) (h1 : c < 65536) : Calls Try.prog 18 #[.string s, .int .i64 c] w fun e w' => e = .returned (.int .i64 (crcTo s c s.size)) ∧ w = w' := by
  have hr := inR_mk (n := c) (a := 0) (b := 65535) (by omega) (by omega)
  go_enter Try.func18, Try.ntmps18
  go_wp2_with (first | (go_at_call 32; refine (l00In_any _ _ _ _).mono ?_; rintro e w' ⟨rfl, rfl⟩) | (go_at_call 37; refine (l01Crc_any _ _ _ hs h1).mono ?_; rintro e w' ⟨rfl, rfl⟩))
  go_ret
  exact ⟨rfl, rfl⟩
theorem spec_Crc16_bad (s : ByteArray) (c : Int) (w : World) (h1 : inR c 0 65535 = false) : Calls Try.prog 18 #[.string s, .int .i64 c] w fun e w' => e = .returned (.int .i64 0) ∧ w = w' := by
  go_enter Try.func18, Try.ntmps18
  go_wp2_with (go_at_call 32; refine (l00In_any _ _ _ _).mono ?_; rintro e w' ⟨rfl, rfl⟩)
  go_ret
  exact ⟨rfl, rfl⟩
theorem l03Truth_any (b : Bool) (w : World) : Calls Try.prog 51 #[.bool b] w fun e w' => e = .returned (.int .i64 (if b then 1 else 0)) ∧ w = w' := by
  cases b <;> (go_enter Try.func51, Try.ntmps51; go_wp2; go_ret; exact ⟨rfl, rfl⟩)
theorem truth_any (b : Bool) (w : World) : Calls Try.prog 52 #[.bool b] w fun e w' => e = .returned (.int .i64 (if b then 1 else 0)) ∧ w = w' := by
  cases b <;> (go_enter Try.func52, Try.ntmps52; go_wp2; go_ret; exact ⟨rfl, rfl⟩)
set_option maxHeartbeats 400000 in
theorem l03Op_any (op a b : Int) (w : World) (h0 : 0 ≤ op) (h1 : op ≤ 8) (ha0 : 0 ≤ a) (ha1 : a ≤ 63) (hb0 : 0 ≤ b) (hb1 : b ≤ 63) : Calls Try.prog 43 #[.int .i64 op, .int .i64 a, .int .i64 b] w fun e w' => e = .returned (.int .i64 (opM op a b)) ∧ w = w' := by
  have hab : 0 ≤ a * b ∧ a * b ≤ 3969 := ⟨Int.mul_nonneg ha0 hb0, Int.le_trans (Int.mul_le_mul ha1 hb1 hb0 (by omega)) (by omega)⟩
  obtain ⟨hab0, hab1⟩ := hab
  go_enter Try.func43, Try.ntmps43
  go_wp2
  all_goals
    go_ret
    refine ⟨?_, rfl⟩
    simp_all [opM]
    done
set_option maxHeartbeats 400000 in
theorem operate_any (op a b : Int) (w : World) (h0 : 0 ≤ op) (h1 : op ≤ 8) (ha0 : 0 ≤ a) (ha1 : a ≤ 63) (hb0 : 0 ≤ b) (hb1 : b ≤ 63) : Calls Try.prog 45 #[.int .i64 op, .int .i64 a, .int .i64 b] w fun e w' => e = .returned (.int .i64 (opM op a b)) ∧ w = w' := by
  have hab : 0 ≤ a * b ∧ a * b ≤ 3969 := ⟨Int.mul_nonneg ha0 hb0, Int.le_trans (Int.mul_le_mul ha1 hb1 hb0 (by omega)) (by omega)⟩
  obtain ⟨hab0, hab1⟩ := hab
  go_enter Try.func45, Try.ntmps45
  go_wp2
  all_goals
    go_ret
    refine ⟨?_, rfl⟩
    simp_all [opM]
    done
theorem isValue_any (n : Int) (w : World) : Calls Try.prog 44 #[.int .i64 n] w fun e w' => e = .returned (.bool (inR n 0 63)) ∧ w = w' := by
  go_enter Try.func44, Try.ntmps44
  go_wp2_with (go_at_call 38; refine (within_any _ _ _ _).mono ?_; rintro e w' ⟨rfl, rfl⟩)
  go_ret
  exact ⟨rfl, rfl⟩
def operM (op a b : Int) : Int := if inR op 0 8 && inR a 0 63 && inR b 0 63 then opM op a b else 0
def operC (op a b : Int) : Int := if inR op 0 8 && inR a 0 63 && inR b 0 63 then 0 else 1
set_option maxHeartbeats 400000 in
theorem Operate_any (op a b : Int) (w : World) : Calls Try.prog 25 #[.int .i64 op, .int .i64 a, .int .i64 b] w fun e w' => e = .returned (.tuple #[.int .i64 (operM op a b), .int .i64 (operC op a b)]) ∧ w = w' := by
  cases h1 : inR op 0 8 <;> cases h2 : inR a 0 63 <;> cases h3 : inR b 0 63
  case true.true.true =>
    have q1 := inR_true h1
    have q2 := inR_true h2
    have q3 := inR_true h3
    have H : Hid (operM op a b = opM op a b ∧ operC op a b = 0) := Lib.hid (by simp [operM, operC, h1, h2, h3])
    go_enter Try.func25, Try.ntmps25
    go_wp2_with (first | (go_at_call 38; refine (within_any _ _ _ _).mono ?_; rintro e w' ⟨rfl, rfl⟩) | (go_at_call 44; refine (isValue_any _ _).mono ?_; rintro e w' ⟨rfl, rfl⟩) | (go_at_call 45; refine (operate_any _ _ _ _ q1.1 q1.2 q2.1 q2.2 q3.1 q3.2).mono ?_; rintro e w' ⟨rfl, rfl⟩))
    go_ret2
    exact ⟨by rw [H.out.1, H.out.2]; rfl, rfl⟩
  all_goals
    have H : Hid (operM op a b = 0 ∧ operC op a b = 1) := Lib.hid (by simp [operM, operC, h1, h2, h3])
    go_enter Try.func25, Try.ntmps25
    go_wp2_with (first | (go_at_call 38; refine (within_any _ _ _ _).mono ?_; rintro e w' ⟨rfl, rfl⟩) | (go_at_call 44; refine (isValue_any _ _).mono ?_; rintro e w' ⟨rfl, rfl⟩))
    go_ret2
    exact ⟨by rw [H.out.1, H.out.2]; rfl, rfl⟩
set_option maxHeartbeats 400000 in
theorem spec_Operate_any (op a b : Int) (w : World) : Calls Try.prog 24 #[.int .i64 op, .int .i64 a, .int .i64 b] w fun e w' => e = .returned (.tuple #[.int .i64 (operM op a b), .int .i64 (operC op a b)]) ∧ w = w' := by
  cases h1 : inR op 0 8 <;> cases h2 : inR a 0 63 <;> cases h3 : inR b 0 63
  case true.true.true =>
    have q1 := inR_true h1
    have q2 := inR_true h2
    have q3 := inR_true h3
    have H : Hid (operM op a b = opM op a b ∧ operC op a b = 0) := Lib.hid (by simp [operM, operC, h1, h2, h3])
    go_enter Try.func24, Try.ntmps24
    go_wp2_with (first | (go_at_call 32; refine (l00In_any _ _ _ _).mono ?_; rintro e w' ⟨rfl, rfl⟩) | (go_at_call 43; refine (l03Op_any _ _ _ _ q1.1 q1.2 q2.1 q2.2 q3.1 q3.2).mono ?_; rintro e w' ⟨rfl, rfl⟩))
    go_ret2
    exact ⟨by rw [H.out.1, H.out.2]; rfl, rfl⟩
  all_goals
    have H : Hid (operM op a b = 0 ∧ operC op a b = 1) := Lib.hid (by simp [operM, operC, h1, h2, h3])
    go_enter Try.func24, Try.ntmps24
    go_wp2_with (go_at_call 32; refine (l00In_any _ _ _ _).mono ?_; rintro e w' ⟨rfl, rfl⟩)
    go_ret2
    exact ⟨by rw [H.out.1, H.out.2]; rfl, rfl⟩
theorem spec_IsAction_any (s : ByteArray) (w : World) (hs : s.size ≤ 4611686018427387904) : Calls Try.prog 16 #[.string s] w fun e w' => e = .returned (.bool (isAction s)) ∧ w = w' := by
  go_enter Try.func16, Try.ntmps16
  go_wp2_with (go_at_call 36; refine (l01Action_any _ _ hs).mono ?_; rintro e w' ⟨rfl, rfl⟩)
  go_ret
  exact ⟨rfl, rfl⟩
end Go.Proofs.Ytmfgabfnmpffpaa
