/- Contracts: lists of int64 held against each other: slices.Equal, slices.Compare, cmp.Compare, and the reference's. -/
import Derived.Test.YtcakmchefbohoaaGreatDoorProg
import Derived.Test.YtcakmchefbohoaaGreatDoorMem
import Derived.Test.YtcakmchefbohoaaGreatDoorMath
import Derived.Test.YtcakmchefbohoaaGreatDoorBasics
import Derived.WalkKit
import Derived.BigQuiet
import Derived.Deep.QuietTactic
import Derived.Lib.Hide
import Derived.Outline
set_option linter.unusedVariables false
set_option linter.unusedSimpArgs false
namespace Go.Proofs.YtcakmchefbohoaaGreatDoor
open Go.RowKit

set_option maxHeartbeats 400000 in
theorem slicesEqualI_any (va vb : Value) (xs ys : List Int) (w : World) (hn : xs.length ≤ 9223372036854775000) (ha : RdI w va xs) (hb : RdI w vb ys) :
    Calls Tryz.prog 140 #[va, vb] w fun e w' => e = .returned (.bool (decide (xs = ys))) ∧ Below w.heap.size w w' := by
  obtain ⟨a, capa, rfl, hcapa, hma, ha⟩ := ha
  obtain ⟨b, capb, rfl, hcapb, hmb, hb⟩ := hb
  unfold maxLen at hma hmb
  by_cases hl : xs.length = ys.length
  · obtain ⟨n, hxn⟩ : ∃ n, n = xs.length := ⟨_, rfl⟩
    rw [← hxn] at hl
    rw [← hl] at hb hcapb ⊢
    rw [← hxn] at hcapa ha hn ⊢
    have Hxn := Lib.hid hxn; clear hxn
    have Hyn := Lib.hid hl; clear hl
    go_enter Tryz.func140, Tryz.ntmps140
    go_wp2
    go_loopw [13] (fun si wr => ∃ k : Nat, k ≤ n ∧ si = .int .i64 k ∧ Hid (xs.take k = ys.take k) ∧ Below w.heap.size w wr) (fun si _ => n - (intOf si).toNat)
    case atStart => exact ⟨0, Nat.zero_le _, rfl, Lib.hid rfl, Below.refl _ _⟩
    case round =>
      obtain ⟨k, hk, rfl, heq, hbl⟩ := hrel
      by_cases hlt : k < n
      · obtain ⟨b1, o1, rfl, hb1, hc1⟩ := ha (by omega)
        obtain ⟨b2, o2, rfl, hb2, hc2⟩ := hb (by omega)
        have g1 : wr.cell? ⟨b1, o1 + k, none⟩ = some (.int .i64 (nth xs k)) := (hbl.cell (by exact hb1)).trans (hc1 k (by omega))
        have g2 : wr.cell? ⟨b2, o2 + k, none⟩ = some (.int .i64 (nth ys k)) := (hbl.cell (by exact hb2)).trans (hc2 k (by omega))
        clear hc1 hc2
        go_wp2
        go_quiet (fail)
        by_cases he : nth xs k = nth ys k
        · have he' : (nth xs k != nth ys k) = false := by simp [he]
          have Hh : Hid (xs.take (k + 1) = ys.take (k + 1)) := by
            have := Hxn.out
            have := Hyn.out
            rw [take_nth xs k (by omega), take_nth ys k (by omega), heq.out, he]
            exact Lib.hid rfl
          clear he
          go_wp2
          go_roundw
          case rel => exact ⟨k + 1, by omega, by go_num, Hh, (hbl.trans ⟨rfl, rfl, rfl, Nat.le_refl _, fun _ _ => rfl⟩)⟩
          case measure => simp [intOf]; omega
        · have he' : (nth xs k != nth ys k) = true := by simpa using he
          have Hh : Hid (decide (xs = ys) = false) := by
            refine Lib.hid (decide_eq_false fun e => he ?_)
            rw [e]
          clear he
          go_wp2
          go_ret
          rw [Hh.out]
          exact ⟨rfl, (hbl.trans ⟨rfl, rfl, rfl, Nat.le_refl _, fun _ _ => rfl⟩)⟩
      · go_wp2
        go_ret
        obtain rfl : k = n := by omega
        have h := heq.out
        rw [List.take_of_length_le (by have := Hxn.out; omega), List.take_of_length_le (by have := Hyn.out; omega)] at h
        refine ⟨?_, hbl⟩
        rw [decide_eq_true h]; rfl
  · have hne : decide (xs = ys) = false := decide_eq_false fun e => hl (by rw [e])
    rw [hne]
    have h1 : ((xs.length : Int) != (ys.length : Int)) = true := by simp; omega
    go_enter Tryz.func140, Tryz.ntmps140
    go_wp2
    go_ret
    exact ⟨rfl, Below.refl _ _⟩

theorem cmpL_nil_nil : cmpL [] [] = 0 := rfl
theorem cmpL_lt {a b : Int} (r q : List Int) (h : a < b) : cmpL (a :: r) (b :: q) = -1 := by simp [cmpL, h]
theorem cmpL_gt {a b : Int} (r q : List Int) (h : b < a) : cmpL (a :: r) (b :: q) = 1 := by simp [cmpL, h]; omega
theorem cmpL_eq {a b : Int} (r q : List Int) (h : a = b) : cmpL (a :: r) (b :: q) = cmpL r q := by simp [cmpL, h]
theorem cmpL_short {xs ys : List Int} {k : Nat} (h : cmpL xs ys = cmpL (xs.drop k) (ys.drop k)) (hx : k = xs.length) (hy : k < ys.length) : cmpL xs ys = -1 := by
  rw [h, List.drop_of_length_le (by omega : xs.length ≤ k), drop_nth ys k hy]
  rfl
theorem cmpL_long {xs ys : List Int} {k : Nat} (h : cmpL xs ys = cmpL (xs.drop k) (ys.drop k)) (hx : k < xs.length) (hy : k = ys.length) : cmpL xs ys = 1 := by
  rw [h, List.drop_of_length_le (by omega : ys.length ≤ k), drop_nth xs k hx]
  rfl
theorem cmpL_same {xs ys : List Int} {k : Nat} (h : cmpL xs ys = cmpL (xs.drop k) (ys.drop k)) (hx : k = xs.length) (hy : k = ys.length) : cmpL xs ys = 0 := by
  rw [h, List.drop_of_length_le (by omega : xs.length ≤ k), List.drop_of_length_le (by omega : ys.length ≤ k)]
  rfl
theorem cmpL_step {xs ys : List Int} {k : Nat} (h : cmpL xs ys = cmpL (xs.drop k) (ys.drop k)) (hx : k < xs.length) (hy : k < ys.length) :
    cmpL xs ys = if nth xs k < nth ys k then -1 else if nth ys k < nth xs k then 1 else cmpL (xs.drop (k + 1)) (ys.drop (k + 1)) := by
  rw [h, drop_nth xs k hx, drop_nth ys k hy]
  rfl
end Go.Proofs.YtcakmchefbohoaaGreatDoor
