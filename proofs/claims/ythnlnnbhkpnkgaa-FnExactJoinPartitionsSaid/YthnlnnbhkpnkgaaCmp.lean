/- Contracts: lists of int64 held against each other: slices.Equal, slices.Compare, cmp.Compare, and the reference's. -/
import Derived.Test.YthnlnnbhkpnkgaaProg
import Derived.Test.YthnlnnbhkpnkgaaMem
import Derived.Test.YthnlnnbhkpnkgaaMath
import Derived.Test.YthnlnnbhkpnkgaaBasics
import Derived.WalkKit
import Derived.BigQuiet
import Derived.Deep.QuietTactic
import Derived.Lib.Hide
import Derived.Outline
set_option linter.unusedVariables false
set_option linter.unusedSimpArgs false
namespace Go.Proofs.Ythnlnnbhkpnkgaa
open Go.RowKit

set_option maxHeartbeats 400000 in
theorem slicesEqualI_any (va vb : Value) (xs ys : List Int) (w : World) (hn : xs.length ≤ 9223372036854775000) (ha : RdI w va xs) (hb : RdI w vb ys) :
    Calls Try.prog 108 #[va, vb] w fun e w' => e = .returned (.bool (decide (xs = ys))) ∧ Below w.heap.size w w' := by
  obtain ⟨a, capa, rfl, hcapa, hma, ha⟩ := ha
  obtain ⟨b, capb, rfl, hcapb, hmb, hb⟩ := hb
  unfold maxLen at hma hmb
  by_cases hl : xs.length = ys.length
  · obtain ⟨n, hxn⟩ : ∃ n, n = xs.length := ⟨_, rfl⟩
    rw [← hxn] at hl
    rw [← hl] at hb hcapb ⊢
    rw [← hxn] at hcapa ha hn ⊢
    have Hxn := Lib.hid hxn; clear hxn
    have Hyn := Lib.hid hl; clear hl
    go_enter Try.func108, Try.ntmps108
    go_wp2
    go_loopw [13] (fun si wr => ∃ k : Nat, k ≤ n ∧ si = .int .i64 k ∧ Hid (xs.take k = ys.take k) ∧ Below w.heap.size w wr) (fun si _ => n - (intOf si).toNat)
    case atStart => exact ⟨0, Nat.zero_le _, rfl, Lib.hid rfl, Below.refl _ _⟩
    case round =>
      obtain ⟨k, hk, rfl, heq, hbl⟩ := hrel
      by_cases hlt : k < n
      · obtain ⟨b1, o1, rfl, hb1, hc1⟩ := ha (by omega)
        obtain ⟨b2, o2, rfl, hb2, hc2⟩ := hb (by omega)
        have g1 : wr.cell? ⟨b1, o1 + k, none⟩ = some (.int .i64 (nth xs k)) := (hbl.cell (by exact hb1)).trans (hc1 k (by omega))
        have g2 : wr.cell? ⟨b2, o2 + k, none⟩ = some (.int .i64 (nth ys k)) := (hbl.cell (by exact hb2)).trans (hc2 k (by omega))
        clear hc1 hc2
        go_wp2
        go_quiet (fail)
        by_cases he : nth xs k = nth ys k
        · have he' : (nth xs k != nth ys k) = false := by simp [he]
          have Hh : Hid (xs.take (k + 1) = ys.take (k + 1)) := by
            have := Hxn.out
            have := Hyn.out
            rw [take_nth xs k (by omega), take_nth ys k (by omega), heq.out, he]
            exact Lib.hid rfl
          clear he
          go_wp2
          go_roundw
          case rel => exact ⟨k + 1, by omega, by go_num, Hh, (hbl.trans ⟨rfl, rfl, rfl, Nat.le_refl _, fun _ _ => rfl⟩)⟩
          case measure => simp [intOf]; omega
        · have he' : (nth xs k != nth ys k) = true := by simpa using he
          have Hh : Hid (decide (xs = ys) = false) := by
            refine Lib.hid (decide_eq_false fun e => he ?_)
            rw [e]
          clear he
          go_wp2
          go_ret
          rw [Hh.out]
          exact ⟨rfl, (hbl.trans ⟨rfl, rfl, rfl, Nat.le_refl _, fun _ _ => rfl⟩)⟩
      · go_wp2
        go_ret
        obtain rfl : k = n := by omega
        have h := heq.out
        rw [List.take_of_length_le (by have := Hxn.out; omega), List.take_of_length_le (by have := Hyn.out; omega)] at h
        refine ⟨?_, hbl⟩
        rw [decide_eq_true h]; rfl
  · have hne : decide (xs = ys) = false := decide_eq_false fun e => hl (by rw [e])
    rw [hne]
    have h1 : ((xs.length : Int) != (ys.length : Int)) = true := by simp; omega
    go_enter Try.func108, Try.ntmps108
    go_wp2
    go_ret
    exact ⟨rfl, Below.refl _ _⟩

theorem cmpL_nil_nil : cmpL [] [] = 0 := rfl
theorem cmpL_lt {a b : Int} (r q : List Int) (h : a < b) : cmpL (a :: r) (b :: q) = -1 := by simp [cmpL, h]
theorem cmpL_gt {a b : Int} (r q : List Int) (h : b < a) : cmpL (a :: r) (b :: q) = 1 := by simp [cmpL, h]; omega
theorem cmpL_eq {a b : Int} (r q : List Int) (h : a = b) : cmpL (a :: r) (b :: q) = cmpL r q := by simp [cmpL, h]
theorem cmpL_short {xs ys : List Int} {k : Nat} (h : cmpL xs ys = cmpL (xs.drop k) (ys.drop k)) (hx : k = xs.length) (hy : k < ys.length) : cmpL xs ys = -1 := by
  rw [h, List.drop_of_length_le (by omega : xs.length ≤ k), drop_nth ys k hy]
  rfl
theorem cmpL_long {xs ys : List Int} {k : Nat} (h : cmpL xs ys = cmpL (xs.drop k) (ys.drop k)) (hx : k < xs.length) (hy : k = ys.length) : cmpL xs ys = 1 := by
  rw [h, List.drop_of_length_le (by omega : ys.length ≤ k), drop_nth xs k hx]
  rfl
theorem cmpL_same {xs ys : List Int} {k : Nat} (h : cmpL xs ys = cmpL (xs.drop k) (ys.drop k)) (hx : k = xs.length) (hy : k = ys.length) : cmpL xs ys = 0 := by
  rw [h, List.drop_of_length_le (by omega : xs.length ≤ k), List.drop_of_length_le (by omega : ys.length ≤ k)]
  rfl
theorem cmpL_step {xs ys : List Int} {k : Nat} (h : cmpL xs ys = cmpL (xs.drop k) (ys.drop k)) (hx : k < xs.length) (hy : k < ys.length) :
    cmpL xs ys = if nth xs k < nth ys k then -1 else if nth ys k < nth xs k then 1 else cmpL (xs.drop (k + 1)) (ys.drop (k + 1)) := by
  rw [h, drop_nth xs k hx, drop_nth ys k hy]
  rfl
theorem isNaN_any (n : Int) (w : World) : Calls Try.prog 119 #[.int .i64 n] w fun e w' => e = .returned (.bool false) ∧ w = w' := by
  go_enter Try.func119, Try.ntmps119
  go_wp2
  go_ret
  exact ⟨by simp, rfl⟩
def cmpI (a b : Int) : Int := if a < b then -1 else if b < a then 1 else 0
theorem cmpCompare_any (a b : Int) (w : World) : Calls Try.prog 104 #[.int .i64 a, .int .i64 b] w fun e w' => e = .returned (.int .i64 (cmpI a b)) ∧ w = w' := by
  by_cases h1 : a < b
  · have H : Hid (cmpI a b = -1) := Lib.hid (by simp [cmpI, h1])
    go_enter Try.func104, Try.ntmps104
    go_wp2_with (go_at_call 119; refine (isNaN_any _ _).mono ?_; rintro e w' ⟨rfl, rfl⟩)
    go_ret
    exact ⟨by rw [H.out]; rfl, rfl⟩
  · by_cases h2 : b < a
    · have H : Hid (cmpI a b = 1) := Lib.hid (by simp [cmpI, h1, h2])
      go_enter Try.func104, Try.ntmps104
      go_wp2_with (go_at_call 119; refine (isNaN_any _ _).mono ?_; rintro e w' ⟨rfl, rfl⟩)
      go_ret
      exact ⟨by rw [H.out]; rfl, rfl⟩
    · have H : Hid (cmpI a b = 0) := Lib.hid (by simp [cmpI, h1, h2])
      go_enter Try.func104, Try.ntmps104
      go_wp2_with (go_at_call 119; refine (isNaN_any _ _).mono ?_; rintro e w' ⟨rfl, rfl⟩)
      go_ret
      exact ⟨by rw [H.out]; rfl, rfl⟩
set_option maxHeartbeats 800000 in
theorem slicesCompareI_any (va vb : Value) (xs ys : List Int) (w : World) (ha : RdI w va xs) (hb : RdI w vb ys) :
    Calls Try.prog 65 #[va, vb] w fun e w' => e = .returned (.int .i64 (cmpL xs ys)) ∧ Below w.heap.size w w' := by
  obtain ⟨a, capa, rfl, hcapa, hma, ha⟩ := ha
  obtain ⟨b, capb, rfl, hcapb, hmb, hb⟩ := hb
  unfold maxLen at hma hmb
  go_enter Try.func65, Try.ntmps65
  go_wp2
  go_loopw [11] (fun si wr => ∃ k : Nat, k ≤ xs.length ∧ k ≤ ys.length ∧ si = .int .i64 k ∧ Hid (cmpL xs ys = cmpL (xs.drop k) (ys.drop k)) ∧ Below w.heap.size w wr) (fun si _ => xs.length - (intOf si).toNat)
  case atStart => exact ⟨0, Nat.zero_le _, Nat.zero_le _, rfl, Lib.hid rfl, Below.refl _ _⟩
  case round =>
    obtain ⟨k, hk, hky, rfl, heq, hbl⟩ := hrel
    by_cases hlt : k < xs.length
    · obtain ⟨b1, o1, rfl, hb1, hc1⟩ := ha (by omega)
      have g1 : wr.cell? ⟨b1, o1 + k, none⟩ = some (.int .i64 (nth xs k)) := (hbl.cell (by exact hb1)).trans (hc1 k (by omega))
      clear hc1
      by_cases hlt2 : k < ys.length
      · obtain ⟨b2, o2, rfl, hb2, hc2⟩ := hb (by omega)
        have g2 : wr.cell? ⟨b2, o2 + k, none⟩ = some (.int .i64 (nth ys k)) := (hbl.cell (by exact hb2)).trans (hc2 k (by omega))
        clear hc2
        have hst := cmpL_step heq.out hlt hlt2
        by_cases h1 : nth xs k < nth ys k
        · rw [if_pos h1] at hst
          have H := Lib.hid hst; clear hst
          have Hc : Hid (cmpI (nth xs k) (nth ys k) = -1) := Lib.hid (by simp [cmpI, h1])
          go_wp2_with (go_at_call 104; refine (cmpCompare_any _ _ _).mono ?_; rw [Hc.out]; rintro e w' ⟨rfl, rfl⟩)
          go_ret
          exact ⟨by rw [H.out]; rfl, hbl⟩
        · rw [if_neg h1] at hst
          by_cases h2 : nth ys k < nth xs k
          · rw [if_pos h2] at hst
            have H := Lib.hid hst; clear hst
            have Hc : Hid (cmpI (nth xs k) (nth ys k) = 1) := Lib.hid (by simp [cmpI, h1, h2])
            go_wp2_with (go_at_call 104; refine (cmpCompare_any _ _ _).mono ?_; rw [Hc.out]; rintro e w' ⟨rfl, rfl⟩)
            go_ret
            exact ⟨by rw [H.out]; rfl, hbl⟩
          · rw [if_neg h2] at hst
            have H := Lib.hid hst; clear hst
            have Hc : Hid (cmpI (nth xs k) (nth ys k) = 0) := Lib.hid (by simp [cmpI, h1, h2])
            go_wp2_with (go_at_call 104; refine (cmpCompare_any _ _ _).mono ?_; rw [Hc.out]; rintro e w' ⟨rfl, rfl⟩)
            go_roundw
            case rel => exact ⟨k + 1, by omega, by omega, by go_num, H, hbl⟩
            case measure => simp [intOf]; omega
      · have H : Hid (cmpL xs ys = 1) := Lib.hid (cmpL_long heq.out hlt (by omega))
        go_wp2_with fail
        go_ret
        exact ⟨by rw [H.out]; rfl, hbl⟩
    · by_cases hlt2 : xs.length < ys.length
      · have H : Hid (cmpL xs ys = -1) := Lib.hid (cmpL_short heq.out (by omega) (by omega))
        go_wp2_with fail
        go_ret
        exact ⟨by rw [H.out]; rfl, hbl⟩
      · have H : Hid (cmpL xs ys = 0) := Lib.hid (cmpL_same heq.out (by omega) (by omega))
        go_wp2_with fail
        go_ret
        exact ⟨by rw [H.out]; rfl, hbl⟩
end Go.Proofs.Ythnlnnbhkpnkgaa
