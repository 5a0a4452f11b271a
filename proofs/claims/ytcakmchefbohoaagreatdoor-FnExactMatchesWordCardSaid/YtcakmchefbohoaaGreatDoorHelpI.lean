/- The laws' own helpers over slices of int64: toInt64S, eqInt64S, markInt64S, heldInt64S. -/
import Derived.Test.YtcakmchefbohoaaGreatDoorProg
import Derived.Test.YtcakmchefbohoaaGreatDoorMem
import Derived.WalkKit
import Derived.BigQuiet
import Derived.Deep.QuietTactic
import Derived.Lib.Hide
import Derived.Outline
set_option linter.unusedVariables false
set_option linter.unusedSimpArgs false
namespace Go.Proofs.YtcakmchefbohoaaGreatDoor
open Go.RowKit

theorem infoI64 : (Tryz.prog.info? 2).map (fun i => (i.zero, i.size, i.bytes)) = some (some (.int .i64 0), 1, 8) := by kernel_rfl

set_option maxHeartbeats 400000 in
theorem eqInt64S_q (va vb : Value) (xs ys : List Int) (w : World) (hn : xs.length ≤ 9223372036854775000) (ha : RdI w va xs) (hb : RdI w vb ys) :
    Calls Tryz.prog 31 #[va, vb] w fun e w' => e = .returned (.bool (decide (xs = ys))) ∧ ∃ m, w' = w.drewN m := by
  obtain ⟨a, capa, rfl, hcapa, hma, ha⟩ := ha
  obtain ⟨b, capb, rfl, hcapb, hmb, hb⟩ := hb
  unfold maxLen at hma hmb
  by_cases hl : xs.length = ys.length
  · obtain ⟨n, hxn⟩ : ∃ n, n = xs.length := ⟨_, rfl⟩
    rw [← hxn] at hl
    rw [← hl] at hb hcapb ⊢
    rw [← hxn] at hcapa ha hn ⊢
    have Hxn := Lib.hid hxn; clear hxn
    have Hyn := Lib.hid hl; clear hl
    go_enter Tryz.func31, Tryz.ntmps31
    go_wp2
    go_loopw [5] (fun si wr => ∃ k : Nat, k ≤ n ∧ si = .int .i64 k ∧ Hid (xs.take k = ys.take k) ∧ ∃ m, wr = w.drewN m) (fun si _ => n - (intOf si).toNat)
    case atStart => exact ⟨0, Nat.zero_le _, rfl, Lib.hid rfl, 0, rfl⟩
    case round =>
      obtain ⟨k, hk, rfl, heq, m, rfl⟩ := hrel
      by_cases hlt : k < n
      · obtain ⟨b1, o1, rfl, hb1, hc1⟩ := ha (by omega)
        obtain ⟨b2, o2, rfl, hb2, hc2⟩ := hb (by omega)
        have g1 : w.cell? ⟨b1, o1 + k, none⟩ = some (.int .i64 (nth xs k)) := hc1 k (by omega)
        have g2 : w.cell? ⟨b2, o2 + k, none⟩ = some (.int .i64 (nth ys k)) := hc2 k (by omega)
        clear hc1 hc2
        go_wp2
        go_quiet (fail)
        by_cases he : nth xs k = nth ys k
        · have he' : (nth xs k != nth ys k) = false := by simp [he]
          have Hh : Hid (xs.take (k + 1) = ys.take (k + 1)) := by
            have := Hxn.out
            have := Hyn.out
            rw [take_nth xs k (by omega), take_nth ys k (by omega), heq.out, he]
            exact Lib.hid rfl
          clear he
          go_wp2
          go_roundw
          case rel => exact ⟨k + 1, by omega, by go_num, Hh, _, rfl⟩
          case measure => simp [intOf]; omega
        · have he' : (nth xs k != nth ys k) = true := by simpa using he
          have Hh : Hid (decide (xs = ys) = false) := by
            refine Lib.hid (decide_eq_false fun e => he ?_)
            rw [e]
          clear he
          go_wp2
          go_ret
          rw [Hh.out]
          exact ⟨rfl, m + nq, World.drewN_drewN _ _ _⟩
      · go_wp2
        go_ret
        obtain rfl : k = n := by omega
        have h := heq.out
        rw [List.take_of_length_le (by have := Hxn.out; omega), List.take_of_length_le (by have := Hyn.out; omega)] at h
        refine ⟨?_, _, rfl⟩
        rw [decide_eq_true h]; rfl
  · have hne : decide (xs = ys) = false := decide_eq_false fun e => hl (by rw [e])
    rw [hne]
    have h1 : ((xs.length : Int) != (ys.length : Int)) = true := by simp; omega
    go_enter Tryz.func31, Tryz.ntmps31
    go_wp2
    go_ret
    exact ⟨rfl, 0, rfl⟩

theorem eqInt64S_qb (va vb : Value) (xs ys : List Int) (w : World) (b : Bool) (h : decide (xs = ys) = b) (hn : xs.length ≤ 9223372036854775000) (ha : RdI w va xs) (hb : RdI w vb ys) :
    Calls Tryz.prog 31 #[va, vb] w fun e w' => e = .returned (.bool b) ∧ ∃ m, w' = w.drewN m := by
  rw [← h]; exact eqInt64S_q va vb xs ys w hn ha hb
theorem eqInt64S_any (va vb : Value) (xs ys : List Int) (w : World) (hn : xs.length ≤ 9223372036854775000) (ha : RdI w va xs) (hb : RdI w vb ys) :
    Calls Tryz.prog 31 #[va, vb] w fun e w' => e = .returned (.bool (decide (xs = ys))) ∧ Below w.heap.size w w' :=
  (eqInt64S_q va vb xs ys w hn ha hb).mono fun e w' ⟨h, m, hm⟩ => ⟨h, by rw [hm]; exact ⟨rfl, rfl, rfl, Nat.le_refl _, fun _ _ => rfl⟩⟩
/-- The numbers k, k + 1, .. -/
def marks (k : Int) (n : Nat) : List Int := (List.range n).map fun (i : Nat) => k + (i : Int)
theorem marks_length (k : Int) (n : Nat) : (marks k n).length = n := by simp [marks]
theorem nth_marks (k : Int) (n i : Nat) (h : i < n) : nth (marks k n) i = k + i := by simp [nth, marks, h]

set_option maxHeartbeats 400000 in
theorem markInt64S_any (lo hi : Nat) (v : Value) (xs : List Int) (m : Int) (w : World) (hn : xs.length ≤ 1048576) (h0 : 0 ≤ m) (hm : m ≤ 1000000000) (hv : InI w lo hi v xs) :
    Calls Tryz.prog 32 #[v, .int .i64 m] w fun e w' => e = .returned (.int .i64 (m + xs.length)) ∧ InI w' lo hi v (marks m xs.length) ∧ Mod lo hi w w' := by
  obtain ⟨a, cap, rfl, hcap, hcm, hv⟩ := hv
  have hcm0 := hcm
  unfold maxLen at hcm
  obtain ⟨n, hxn⟩ : ∃ n, n = xs.length := ⟨_, rfl⟩
  unfold InI
  rw [marks_length]
  rw [← hxn] at hcap hv hn ⊢
  have Hxn := Lib.hid hxn; clear hxn
  go_enter Tryz.func32, Tryz.ntmps32
  go_wp2
  go_loopw [1, 5] (fun sk si wr => ∃ k : Nat, k ≤ n ∧ si = .int .i64 k ∧ sk = .int .i64 (m + k) ∧
      Hid (Mod lo hi w wr ∧ ∀ b o, a = some ⟨b, o, none⟩ → ∀ i, i < n → (i < k → wr.cell? ⟨b, o + i, none⟩ = some (.int .i64 (m + i))) ∧ (k ≤ i → wr.cell? ⟨b, o + i, none⟩ = w.cell? ⟨b, o + i, none⟩) ∧ wr.frozen? ⟨b, o + i, none⟩ = w.frozen? ⟨b, o + i, none⟩))
    (fun _ si _ => n - (intOf si).toNat)
  case atStart => exact ⟨0, Nat.zero_le _, rfl, by simp, Lib.hid ⟨Mod.refl _ _ _, fun b o _ i _ => ⟨fun h => absurd h (by omega), fun _ => rfl, rfl⟩⟩⟩
  case round =>
    obtain ⟨k, hk, rfl, rfl, H⟩ := hrel
    by_cases hlt : k < n
    · obtain ⟨b, o, rfl, hbb, hbh, hb, hc⟩ := hv (by omega)
      have hc' := hc k (by omega)
      have hg : wr.cell? ⟨b, o + k, none⟩ = some (ic xs k) := by rw [((H.out.2 b o rfl k hlt).2.1 (Nat.le_refl _)), hc'.1]
      have hfz : wr.frozen? ⟨b, o + k, none⟩ = false := by rw [(H.out.2 b o rfl k hlt).2.2, hc'.2]
      have H2 : Hid (Mod lo hi w (wr.setCell ⟨b, o + k, none⟩ (.int .i64 (m + k))) ∧ ∀ b' o', some (⟨b, o, none⟩ : Addr) = some ⟨b', o', none⟩ → ∀ i, i < n → (i < k + 1 → (wr.setCell ⟨b, o + k, none⟩ (.int .i64 (m + k))).cell? ⟨b', o' + i, none⟩ = some (.int .i64 (m + i))) ∧ (k + 1 ≤ i → (wr.setCell ⟨b, o + k, none⟩ (.int .i64 (m + k))).cell? ⟨b', o' + i, none⟩ = w.cell? ⟨b', o' + i, none⟩) ∧ (wr.setCell ⟨b, o + k, none⟩ (.int .i64 (m + k))).frozen? ⟨b', o' + i, none⟩ = w.frozen? ⟨b', o' + i, none⟩) := by
        obtain ⟨h1, h3⟩ := H.out
        refine Lib.hid ⟨h1.setCell hbb hbh _, fun b' o' e i hi => ?_⟩
        cases e
        obtain ⟨q1, q2, q3⟩ := h3 b o rfl i hi
        refine ⟨fun h => ?_, fun h => ?_, by rw [frozen_setCell]; exact q3⟩
        · by_cases hik : i = k
          · subst hik; exact World.cell?_setCell_same _ _ _ hg
          · rw [World.cell?_setCell_other _ _ _ _ (addr_ne (by omega))]; exact q1 (by omega)
        · rw [World.cell?_setCell_other _ _ _ _ (addr_ne (by omega))]; exact q2 (by omega)
      clear hc hc' H
      unfold ic at hg
      go_wp2
      go_roundw
      case rel => exact ⟨k + 1, by omega, by go_num, by rw [show m + ((k + 1 : Nat) : Int) = m + k + 1 by omega], H2⟩
      case measure => simp [intOf]; omega
    · go_wp2
      go_ret
      obtain rfl : k = n := by omega
      obtain ⟨h1, h3⟩ := H.out
      refine ⟨rfl, ⟨a, cap, rfl, hcap, hcm0, fun h => ?_⟩, h1⟩
      obtain ⟨b, o, rfl, hbb, hbh, hb, hc⟩ := hv h
      refine ⟨b, o, rfl, hbb, hbh, Nat.lt_of_lt_of_le hb h1.size, fun i hi => ?_⟩
      obtain ⟨q1, _, q3⟩ := h3 b o rfl i (by omega)
      exact ⟨by rw [q1 (by omega), ic, nth_marks _ _ _ (by omega)], q3.trans (hc i hi).2⟩

set_option maxHeartbeats 400000 in
theorem heldInt64S_any (v : Value) (m : Int) (n : Nat) (w : World) (hn : n ≤ 1048576) (h0 : 0 ≤ m) (hm : m ≤ 1000000000) (hv : RdI w v (marks m n)) :
    Calls Tryz.prog 33 #[v, .int .i64 m] w fun e w' => e = .returned (.int .i64 (m + n)) ∧ w = w' := by
  unfold RdI at hv
  rw [marks_length] at hv
  obtain ⟨a, cap, rfl, hcap, hcm, hv⟩ := hv
  unfold maxLen at hcm
  go_enter Tryz.func33, Tryz.ntmps33
  go_wp2
  go_loop [1, 5] (fun sk si => ∃ k : Nat, k ≤ n ∧ si = .int .i64 k ∧ sk = .int .i64 (m + k)) (fun _ si => n - (intOf si).toNat)
  case atStart => exact ⟨0, Nat.zero_le _, rfl, by simp⟩
  case round =>
    obtain ⟨k, hk, rfl, rfl⟩ := hrel
    by_cases hlt : k < n
    · obtain ⟨b, o, rfl, hb, hc⟩ := hv (by omega)
      have hg : w.cell? ⟨b, o + k, none⟩ = some (.int .i64 (m + k)) := by rw [hc k (by omega), ic, nth_marks _ _ _ (by omega)]
      clear hc
      go_wp2
      go_round
      case rel => exact ⟨k + 1, by omega, by go_num, by rw [show m + ((k + 1 : Nat) : Int) = m + k + 1 by omega]⟩
      case measure => simp [intOf]; omega
    · go_wp2
      go_ret
      obtain rfl : k = n := by omega
      exact ⟨rfl, rfl⟩
end Go.Proofs.YtcakmchefbohoaaGreatDoor
