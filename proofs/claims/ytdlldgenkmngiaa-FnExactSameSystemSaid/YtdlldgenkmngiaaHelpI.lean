/- The laws' own helpers over slices of int64: toInt64S, eqInt64S, markInt64S, heldInt64S. -/
import Derived.Test.YtdlldgenkmngiaaProg
import Derived.Test.YtdlldgenkmngiaaMem
import Derived.WalkKit
import Derived.BigQuiet
import Derived.Deep.QuietTactic
import Derived.Lib.Hide
import Derived.Outline
set_option linter.unusedVariables false
set_option linter.unusedSimpArgs false
namespace Go.Proofs.Ytdlldgenkmngiaa
open Go.RowKit

theorem infoI64 : (Try.prog.info? 2).map (fun i => (i.zero, i.size, i.bytes)) = some (some (.int .i64 0), 1, 8) := by kernel_rfl

set_option maxHeartbeats 400000 in
theorem toInt64S_any (v : Value) (xs : List Int) (w : World) (hn : xs.length ≤ 1048576) (hv : RdI w v xs) :
    Calls Try.prog 56 #[v] w fun e w' => ∃ u, e = .returned u ∧ OwI w' w.heap.size u xs ∧ Below w.heap.size w w' := by
  obtain ⟨a, cap, rfl, hcap, _, hv⟩ := hv
  obtain ⟨i0, hi, hz0, hz1, hz2⟩ := info_parts infoI64
  obtain ⟨n, hxn⟩ : ∃ n, n = xs.length := ⟨_, rfl⟩
  rw [← hxn] at hcap hv hn ⊢
  have Hxn := Lib.hid hxn; clear hxn
  go_enter Try.func56, Try.ntmps56
  go_wp2_with (at_make; refine wpList_make_full _ rfl _ _ 55 rfl w.heap.size 2 i0 (.int .i64 0) 1 Try.underlying55 hi hz0 hz1 _ _ _ _ n rfl rfl rfl rfl ?b2 ?b3 (Nat.le_refl _) ?_)
  case b2 => rw [hz2]; omega
  case b3 => unfold maxLen; omega
  intro w0 hown0 hgrow0
  rw [toList_madeCells_one] at hown0
  go_wp2
  rw [← fillRow_zero (ic xs)] at hown0
  go_loopw [4] (fun si wr => ∃ k : Nat, k ≤ n ∧ si = .int .i64 k ∧ wr.ownsRow w.heap.size 2 1 (.slice (some ⟨w.heap.size, 0, none⟩) n n) n (fillRow (ic xs) n k (.int .i64 0)) ∧ Below w.heap.size w wr)
    (fun si _ => n - (intOf si).toNat)
  case atStart => exact ⟨0, Nat.zero_le _, rfl, hown0, (Below.refl _ _).grown hgrow0 (Nat.le_refl _) (fun k h => by cases h)⟩
  case round =>
    obtain ⟨k, hk, rfl, hown, hbl⟩ := hrel
    by_cases hlt : k < n
    · obtain ⟨b, o, rfl, hb, hc⟩ := hv (by omega)
      have hg : wr.cell? ⟨b, o + k, none⟩ = some (.int .i64 (nth xs k)) := (hbl.cell (by exact hb)).trans (hc k (by omega))
      have hold : wr.cell? ⟨w.heap.size, k, none⟩ = some (.int .i64 0) := (hown.cellAt k (by omega)).trans (fillRow_get _ _ _ _ hlt)
      have hfz := hown.frozenAt k
      have hs1 := (hown.stored k (.int .i64 (nth xs k))).1
      rw [show (.int .i64 (nth xs k) : Value) = ic xs k from rfl, fillRow_set _ _ _ _ hlt] at hs1
      have hs2 : Below w.heap.size w (wr.setCell ⟨w.heap.size, k, none⟩ (.int .i64 (nth xs k))) := hbl.setCell (Nat.le_refl _) _
      clear hc
      go_wp2
      go_roundw
      case rel => exact ⟨k + 1, by omega, by go_num, hs1, hs2⟩
      case measure => simp [intOf]; omega
    · go_wp2
      go_ret
      obtain rfl : k = n := by omega
      refine ⟨_, rfl, ?_, hbl⟩
      have e := Hxn.out
      subst e
      exact ownsRow_ow hown _ fun i hi => fillRow_full _ _ _ _ (by omega)

set_option maxHeartbeats 400000 in
theorem eqInt64S_q (va vb : Value) (xs ys : List Int) (w : World) (hn : xs.length ≤ 9223372036854775000) (ha : RdI w va xs) (hb : RdI w vb ys) :
    Calls Try.prog 59 #[va, vb] w fun e w' => e = .returned (.bool (decide (xs = ys))) ∧ ∃ m, w' = w.drewN m := by
  obtain ⟨a, capa, rfl, hcapa, hma, ha⟩ := ha
  obtain ⟨b, capb, rfl, hcapb, hmb, hb⟩ := hb
  unfold maxLen at hma hmb
  by_cases hl : xs.length = ys.length
  · obtain ⟨n, hxn⟩ : ∃ n, n = xs.length := ⟨_, rfl⟩
    rw [← hxn] at hl
    rw [← hl] at hb hcapb ⊢
    rw [← hxn] at hcapa ha hn ⊢
    have Hxn := Lib.hid hxn; clear hxn
    have Hyn := Lib.hid hl; clear hl
    go_enter Try.func59, Try.ntmps59
    go_wp2
    go_loopw [5] (fun si wr => ∃ k : Nat, k ≤ n ∧ si = .int .i64 k ∧ Hid (xs.take k = ys.take k) ∧ ∃ m, wr = w.drewN m) (fun si _ => n - (intOf si).toNat)
    case atStart => exact ⟨0, Nat.zero_le _, rfl, Lib.hid rfl, 0, rfl⟩
    case round =>
      obtain ⟨k, hk, rfl, heq, m, rfl⟩ := hrel
      by_cases hlt : k < n
      · obtain ⟨b1, o1, rfl, hb1, hc1⟩ := ha (by omega)
        obtain ⟨b2, o2, rfl, hb2, hc2⟩ := hb (by omega)
        have g1 : w.cell? ⟨b1, o1 + k, none⟩ = some (.int .i64 (nth xs k)) := hc1 k (by omega)
        have g2 : w.cell? ⟨b2, o2 + k, none⟩ = some (.int .i64 (nth ys k)) := hc2 k (by omega)
        clear hc1 hc2
        go_wp2
        go_quiet (fail)
        by_cases he : nth xs k = nth ys k
        · have he' : (nth xs k != nth ys k) = false := by simp [he]
          have Hh : Hid (xs.take (k + 1) = ys.take (k + 1)) := by
            have := Hxn.out
            have := Hyn.out
            rw [take_nth xs k (by omega), take_nth ys k (by omega), heq.out, he]
            exact Lib.hid rfl
          clear he
          go_wp2
          go_roundw
          case rel => exact ⟨k + 1, by omega, by go_num, Hh, _, rfl⟩
          case measure => simp [intOf]; omega
        · have he' : (nth xs k != nth ys k) = true := by simpa using he
          have Hh : Hid (decide (xs = ys) = false) := by
            refine Lib.hid (decide_eq_false fun e => he ?_)
            rw [e]
          clear he
          go_wp2
          go_ret
          rw [Hh.out]
          exact ⟨rfl, m + nq, World.drewN_drewN _ _ _⟩
      · go_wp2
        go_ret
        obtain rfl : k = n := by omega
        have h := heq.out
        rw [List.take_of_length_le (by have := Hxn.out; omega), List.take_of_length_le (by have := Hyn.out; omega)] at h
        refine ⟨?_, _, rfl⟩
        rw [decide_eq_true h]; rfl
  · have hne : decide (xs = ys) = false := decide_eq_false fun e => hl (by rw [e])
    rw [hne]
    have h1 : ((xs.length : Int) != (ys.length : Int)) = true := by simp; omega
    go_enter Try.func59, Try.ntmps59
    go_wp2
    go_ret
    exact ⟨rfl, 0, rfl⟩

theorem eqInt64S_qb (va vb : Value) (xs ys : List Int) (w : World) (b : Bool) (h : decide (xs = ys) = b) (hn : xs.length ≤ 9223372036854775000) (ha : RdI w va xs) (hb : RdI w vb ys) :
    Calls Try.prog 59 #[va, vb] w fun e w' => e = .returned (.bool b) ∧ ∃ m, w' = w.drewN m := by
  rw [← h]; exact eqInt64S_q va vb xs ys w hn ha hb
theorem eqInt64S_any (va vb : Value) (xs ys : List Int) (w : World) (hn : xs.length ≤ 9223372036854775000) (ha : RdI w va xs) (hb : RdI w vb ys) :
    Calls Try.prog 59 #[va, vb] w fun e w' => e = .returned (.bool (decide (xs = ys))) ∧ Below w.heap.size w w' :=
  (eqInt64S_q va vb xs ys w hn ha hb).mono fun e w' ⟨h, m, hm⟩ => ⟨h, by rw [hm]; exact ⟨rfl, rfl, rfl, Nat.le_refl _, fun _ _ => rfl⟩⟩
/-- The numbers k, k + 1, .. -/
def marks (k : Int) (n : Nat) : List Int := (List.range n).map fun (i : Nat) => k + (i : Int)
theorem marks_length (k : Int) (n : Nat) : (marks k n).length = n := by simp [marks]
theorem nth_marks (k : Int) (n i : Nat) (h : i < n) : nth (marks k n) i = k + i := by simp [nth, marks, h]

end Go.Proofs.Ytdlldgenkmngiaa
