/- Contracts: tokens, what both sides use. -/
import Derived.Test.YtcakmchefbohoaaDoorProg
import Derived.Test.YtcakmchefbohoaaDoorMem
import Derived.Test.YtcakmchefbohoaaDoorMath
import Derived.Test.YtcakmchefbohoaaDoorBasics
import Derived.Test.YtcakmchefbohoaaDoorHelpI
import Derived.Test.YtcakmchefbohoaaDoorOpenI
import Derived.Test.YtcakmchefbohoaaDoorGrid
import Derived.Test.YtcakmchefbohoaaDoorOper
import Derived.Test.YtcakmchefbohoaaDoorShelf
import Derived.Test.YtcakmchefbohoaaDoorDec
import Derived.Test.YtcakmchefbohoaaDoorNum
import Derived.Test.YtcakmchefbohoaaDoorText
import Derived.Test.YtcakmchefbohoaaDoorLab
import Derived.Test.YtcakmchefbohoaaDoorRead
import Derived.Test.YtcakmchefbohoaaDoorEnv
import Derived.Test.YtcakmchefbohoaaDoorTok
import Derived.WalkKit
import Derived.BigQuiet
import Derived.Maps.AppendAt
import Derived.Lib.Hide
import Derived.Outline
set_option linter.unusedVariables false
set_option linter.unusedSimpArgs false
namespace Go.Proofs.YtcakmchefbohoaaDoor
open Go.RowKit

set_option maxRecDepth 100000 in
theorem digitsEnd_any (s : ByteArray) (p : Nat) (w : World) (hs : s.size ≤ 1048576) (hp : p ≤ 1048577) :
    Calls Tryd.prog 21 #[.string s, .int .i64 p] w fun e w' => e = .returned (.int .i64 (runE digit s p)) ∧ w = w' := by
  go_enter Tryd.func21, Tryd.ntmps21
  go_wp2_with fail
  go_loop [1] (fun sp => ∃ k : Nat, sp = .int .i64 k ∧ k ≤ 1048577 ∧ Hid (runE digit s p = runE digit s k)) (fun sp => s.size - (intOf sp).toNat)
  case atStart => exact ⟨p, rfl, hp, Lib.hid rfl⟩
  case round =>
    obtain ⟨k, rfl, hk, HR⟩ := hrel
    by_cases hlt : k < s.size
    · have hck : (s[k].toNat : Int) = bt s k := bt_eq s k hlt
      cases hq : digit (bt s k) with
      | true =>
        have HN : Hid (runE digit s p = runE digit s (k + 1)) := Lib.hid (by rw [HR.out, runE_step hlt hq])
        have hdd : digit (bt s k) = true := hq
        go_wp2_with fail
        refine (isDigit_any _ _).mono ?_
        rw [hdd]
        rintro e w' ⟨rfl, rfl⟩
        clear hq
        go_wp2_with fail
        go_round
        case rel => exact ⟨k + 1, by go_num, by omega, HN⟩
        case measure => simp [intOf]; omega
      | false =>
        have HN : Hid (runE digit s p = k) := Lib.hid (by rw [HR.out, runE_stop hq])
        have hdd : digit (bt s k) = false := hq
        go_wp2_with fail
        refine (isDigit_any _ _).mono ?_
        rw [hdd]
        rintro e w' ⟨rfl, rfl⟩
        clear hq
        go_wp2_with fail
        go_ret
        exact ⟨by rw [HN.out]; rfl, rfl⟩
    · have HN : Hid (runE digit s p = k) := Lib.hid (by rw [HR.out, runE_end hlt])
      go_wp2_with fail
      go_ret
      exact ⟨by rw [HN.out]; rfl, rfl⟩
set_option maxRecDepth 100000 in
theorem l04Digits_any (s : ByteArray) (p : Nat) (w : World) (hs : s.size ≤ 1048576) (hp : p ≤ 1048577) :
    Calls Tryd.prog 17 #[.string s, .int .i64 p] w fun e w' => e = .returned (.int .i64 (runE digit s p)) ∧ w = w' := by
  go_enter Tryd.func17, Tryd.ntmps17
  go_wp2_with fail
  go_loop [1] (fun sp => ∃ k : Nat, sp = .int .i64 k ∧ k ≤ 1048577 ∧ Hid (runE digit s p = runE digit s k)) (fun sp => s.size - (intOf sp).toNat)
  case atStart => exact ⟨p, rfl, hp, Lib.hid rfl⟩
  case round =>
    obtain ⟨k, rfl, hk, HR⟩ := hrel
    by_cases hlt : k < s.size
    · have hck : (s[k].toNat : Int) = bt s k := bt_eq s k hlt
      cases hq : digit (bt s k) with
      | true =>
        have HN : Hid (runE digit s p = runE digit s (k + 1)) := Lib.hid (by rw [HR.out, runE_step hlt hq])
        have hdd : digit (bt s k) = true := hq
        go_wp2_with fail
        refine (l01Digit_any _ _).mono ?_
        rw [hdd]
        rintro e w' ⟨rfl, rfl⟩
        clear hq
        go_wp2_with fail
        go_round
        case rel => exact ⟨k + 1, by go_num, by omega, HN⟩
        case measure => simp [intOf]; omega
      | false =>
        have HN : Hid (runE digit s p = k) := Lib.hid (by rw [HR.out, runE_stop hq])
        have hdd : digit (bt s k) = false := hq
        go_wp2_with fail
        refine (l01Digit_any _ _).mono ?_
        rw [hdd]
        rintro e w' ⟨rfl, rfl⟩
        clear hq
        go_wp2_with fail
        go_ret
        exact ⟨by rw [HN.out]; rfl, rfl⟩
    · have HN : Hid (runE digit s p = k) := Lib.hid (by rw [HR.out, runE_end hlt])
      go_wp2_with fail
      go_ret
      exact ⟨by rw [HN.out]; rfl, rfl⟩
set_option maxRecDepth 100000 in
theorem l04Skip_any (s : ByteArray) (p : Nat) (w : World) (hs : s.size ≤ 1048576) (hp : p ≤ 1048577) :
    Calls Tryd.prog 12 #[.string s, .int .i64 p] w fun e w' => e = .returned (.int .i64 (runE isBl s p)) ∧ w = w' := by
  go_enter Tryd.func12, Tryd.ntmps12
  go_wp2_with fail
  go_loop [1] (fun sp => ∃ k : Nat, sp = .int .i64 k ∧ k ≤ 1048577 ∧ Hid (runE isBl s p = runE isBl s k)) (fun sp => s.size - (intOf sp).toNat)
  case atStart => exact ⟨p, rfl, hp, Lib.hid rfl⟩
  case round =>
    obtain ⟨k, rfl, hk, HR⟩ := hrel
    by_cases hlt : k < s.size
    · have hck : (s[k].toNat : Int) = bt s k := bt_eq s k hlt
      cases hq : isBl (bt s k) with
      | true =>
        have HN : Hid (runE isBl s p = runE isBl s (k + 1)) := Lib.hid (by rw [HR.out, runE_step hlt hq])
        have hdd : (bt s k == 32) = true := by unfold isBl at hq; simpa using hq
        clear hq
        go_wp2_with fail
        go_round
        case rel => exact ⟨k + 1, by go_num, by omega, HN⟩
        case measure => simp [intOf]; omega
      | false =>
        have HN : Hid (runE isBl s p = k) := Lib.hid (by rw [HR.out, runE_stop hq])
        have hdd : (bt s k == 32) = false := by unfold isBl at hq; simpa using hq
        clear hq
        go_wp2_with fail
        go_ret
        exact ⟨by rw [HN.out]; rfl, rfl⟩
    · have HN : Hid (runE isBl s p = k) := Lib.hid (by rw [HR.out, runE_end hlt])
      go_wp2_with fail
      go_ret
      exact ⟨by rw [HN.out]; rfl, rfl⟩
theorem beq_lit1 (t : ByteArray) (c : UInt8) : (t.toList == [c]) = decide (t = ⟨#[c]⟩) := by
  have e : (⟨#[c]⟩ : ByteArray).toList = [c] := by rw [ByteArray.toList_eq]
  have h := beq_text t ⟨#[c]⟩
  rw [e] at h
  exact h
set_option maxRecDepth 100000 in
theorem numberToken_any (t : ByteArray) (L : Int) (w : World) (ht : t.size ≤ 1048576) (h0 : 1 ≤ L) (h1 : L ≤ 1000) (hT : Env3 w) :
    Calls Tryd.prog 28 #[.string t, .int .i64 L] w fun e w' => e = .returned (.tuple #[.int .i64 (rdN t), .bool (smallB t L)]) ∧ Below w.heap.size w w' := by
  have HT := Lib.hid hT
  clear hT
  have hw : wrap64 (L - 1) = L - 1 := by unfold wrap64; omega
  cases hc : canon t.data.toList with
  | false =>
    have HS : Hid (smallB t L = false) := Lib.hid (by unfold smallB; rw [hc]; rfl)
    rw [HS.out]
    go_enter Tryd.func28, Tryd.ntmps28
    go_wp2_with fail
    refine (ReadDecimal_any t _ (by omega) HT.out.1 HT.out.2.1 HT.out.2.2).mono ?_
    rw [hc]
    rintro e w1 ⟨rfl, hb1⟩
    go_wp2_with fail
    go_ret2
    exact ⟨rfl, hb1⟩
  | true =>
    have HS : Hid (smallB t L = inR (rdN t) 0 (L - 1)) := Lib.hid (by unfold smallB; rw [hc]; rfl)
    rw [HS.out]
    obtain ⟨R, hR⟩ : ∃ R, R = inR (rdN t) 0 (L - 1) := ⟨_, rfl⟩
    rw [← hR]
    have HR := Lib.hid hR
    obtain ⟨V, hV⟩ : ∃ V, V = rdN t := ⟨_, rfl⟩
    have HV := Lib.hid hV
    rw [← hV] at HR ⊢
    clear hR hV
    go_enter Tryd.func28, Tryd.ntmps28
    go_wp2_with fail
    refine (ReadDecimal_any t _ (by omega) HT.out.1 HT.out.2.1 HT.out.2.2).mono ?_
    rw [hc, ← HV.out]
    rintro e w1 ⟨rfl, hb1⟩
    go_wp2_with fail
    refine (within_any V 0 (L - 1) _).mono ?_
    rw [← HR.out]
    rintro e w' ⟨rfl, rfl⟩
    go_wp2_with fail
    go_ret2
    exact ⟨rfl, hb1⟩
set_option maxRecDepth 100000 in
theorem variableToken_any (t : ByteArray) (w : World) (ht : t.size ≤ 1048576) (hT : Env3 w) :
    Calls Tryd.prog 29 #[.string t] w fun e w' => e = .returned (.tuple #[.int .i64 (rdN (restV t)), .bool (Lib.hasPrefix t.data.toList [118] && smallB (restV t) 29)]) ∧ Below w.heap.size w w' := by
  have HT := Lib.hid hT
  have hrs : (restV t).size ≤ 1048576 := by
    have hl : t.data.toList.length = t.size := by rw [Array.length_toList]; rfl
    have : (restV t).size = (Lib.trimPrefix t.data.toList [118]).length := rfl
    have h2 : (Lib.trimPrefix t.data.toList [118]).length ≤ t.data.toList.length := by
      unfold Lib.trimPrefix
      split
      · rw [List.length_drop]; omega
      · exact Nat.le_refl _
    omega
  clear hT
  cases hp : Lib.hasPrefix t.data.toList [118] with
  | false =>
    go_enter Tryd.func29, Tryd.ntmps29
    go_wp2_with fail
    refine (Tryd_strings_CutPrefix t _ _).mono ?_
    rw [show ({ data := #[118] } : ByteArray).data.toList = [118] from rfl, hp, show (⟨(Lib.trimPrefix t.data.toList [118]).toArray⟩ : ByteArray) = restV t from rfl]
    rintro e w' ⟨rfl, rfl⟩
    go_wp2_with fail
    refine (numberToken_any (restV t) 29 _ hrs (by decide) (by decide) HT.out).mono ?_
    rintro e w1 ⟨rfl, hb1⟩
    go_wp2_with fail
    go_ret2
    exact ⟨rfl, hb1⟩
  | true =>
    go_enter Tryd.func29, Tryd.ntmps29
    go_wp2_with fail
    refine (Tryd_strings_CutPrefix t _ _).mono ?_
    rw [show ({ data := #[118] } : ByteArray).data.toList = [118] from rfl, hp, show (⟨(Lib.trimPrefix t.data.toList [118]).toArray⟩ : ByteArray) = restV t from rfl]
    rintro e w' ⟨rfl, rfl⟩
    go_wp2_with fail
    refine (numberToken_any (restV t) 29 _ hrs (by decide) (by decide) HT.out).mono ?_
    rintro e w1 ⟨rfl, hb1⟩
    go_wp2_with fail
    go_ret2
    exact ⟨by rw [Bool.true_and]; rfl, hb1⟩
set_option maxRecDepth 100000 in
set_option maxHeartbeats 1600000 in
theorem isToken_any (t : ByteArray) (w : World) (ht : t.size ≤ 1048576) (hT : Env3 w) (hX : TextTab w) :
    Calls Tryd.prog 23 #[.string t] w fun e w' => e = .returned (.bool (isTokB t)) ∧ Below w.heap.size w w' := by
  have HT := Lib.hid hT
  have HX := Lib.hid hX
  clear hT hX
  have HB : Hid (isTokB t = (readOk t || decide (t = ⟨#[33]⟩) || decide (t = ⟨#[40]⟩) || decide (t = ⟨#[41]⟩) || smallB t 64 || (Lib.hasPrefix t.data.toList [118] && smallB (restV t) 29))) := Lib.hid rfl
  have b33 := beq_lit1 t 33
  have b40 := beq_lit1 t 40
  have b41 := beq_lit1 t 41
  cases hr : readOk t with
  | true =>
    clear b33
    clear b40
    clear b41
    have HR : Hid (isTokB t = true) := Lib.hid (by rw [HB.out, hr]; simp)
    rw [HR.out]
    clear HB
    go_enter Tryd.func23, Tryd.ntmps23
    go_wp2_with fail
    refine (ReadOperator_any t _ HX.out).mono ?_
    rw [hr]
    rintro e w1 ⟨rfl, hb1⟩
    go_wp2_with fail
    go_ret
    exact ⟨rfl, hb1⟩
  | false =>
    cases h33 : decide (t = ⟨#[33]⟩) with
    | true =>
      rw [h33] at b33
      clear b40
      clear b41
      have HR : Hid (isTokB t = true) := Lib.hid (by rw [HB.out, hr, h33]; simp)
      rw [HR.out]
      clear HB h33
      go_enter Tryd.func23, Tryd.ntmps23
      go_wp2_with fail
      refine (ReadOperator_any t _ HX.out).mono ?_
      rw [hr]
      rintro e w1 ⟨rfl, hb1⟩
      go_wp2_with fail
      go_ret
      exact ⟨rfl, hb1⟩
    | false =>
      cases h40 : decide (t = ⟨#[40]⟩) with
      | true =>
        rw [h33] at b33
        rw [h40] at b40
        clear b41
        have HR : Hid (isTokB t = true) := Lib.hid (by rw [HB.out, hr, h33, h40]; simp)
        rw [HR.out]
        clear HB h33 h40
        go_enter Tryd.func23, Tryd.ntmps23
        go_wp2_with fail
        refine (ReadOperator_any t _ HX.out).mono ?_
        rw [hr]
        rintro e w1 ⟨rfl, hb1⟩
        go_wp2_with fail
        go_ret
        exact ⟨rfl, hb1⟩
      | false =>
        cases h41 : decide (t = ⟨#[41]⟩) with
        | true =>
          rw [h33] at b33
          rw [h40] at b40
          rw [h41] at b41
          have HR : Hid (isTokB t = true) := Lib.hid (by rw [HB.out, hr, h33, h40, h41]; simp)
          rw [HR.out]
          clear HB h33 h40 h41
          go_enter Tryd.func23, Tryd.ntmps23
          go_wp2_with fail
          refine (ReadOperator_any t _ HX.out).mono ?_
          rw [hr]
          rintro e w1 ⟨rfl, hb1⟩
          go_wp2_with fail
          go_ret
          exact ⟨rfl, hb1⟩
        | false =>
          cases hn : smallB t 64 with
          | true =>
            rw [h33] at b33
            rw [h40] at b40
            rw [h41] at b41
            have HR : Hid (isTokB t = true) := Lib.hid (by rw [HB.out, hr, h33, h40, h41, hn]; simp)
            rw [HR.out]
            clear HB h33 h40 h41
            go_enter Tryd.func23, Tryd.ntmps23
            go_wp2_with fail
            refine (ReadOperator_any t _ HX.out).mono ?_
            rw [hr]
            rintro e w1 ⟨rfl, hb1⟩
            go_wp2_with fail
            refine (numberToken_any t 64 _ ht (by decide) (by decide) (HT.out.below hb1)).mono ?_
            rw [hn]
            rintro e w2 ⟨rfl, hb2⟩
            go_wp2_with fail
            go_ret
            exact ⟨rfl, (below_trans' hb1 hb2)⟩
          | false =>
            rw [h33] at b33
            rw [h40] at b40
            rw [h41] at b41
            have HR : Hid (isTokB t = (Lib.hasPrefix t.data.toList [118] && smallB (restV t) 29)) := Lib.hid (by rw [HB.out, hr, h33, h40, h41, hn]; simp)
            rw [HR.out]
            clear HB h33 h40 h41
            go_enter Tryd.func23, Tryd.ntmps23
            go_wp2_with fail
            refine (ReadOperator_any t _ HX.out).mono ?_
            rw [hr]
            rintro e w1 ⟨rfl, hb1⟩
            go_wp2_with fail
            refine (numberToken_any t 64 _ ht (by decide) (by decide) (HT.out.below hb1)).mono ?_
            rw [hn]
            rintro e w2 ⟨rfl, hb2⟩
            go_wp2_with fail
            refine (variableToken_any t _ ht (HT.out.below (below_trans' hb1 hb2))).mono ?_
            rintro e w3 ⟨rfl, hb3⟩
            go_wp2_with fail
            go_ret
            exact ⟨rfl, (below_trans' (below_trans' hb1 hb2) hb3)⟩
end Go.Proofs.YtcakmchefbohoaaDoor
