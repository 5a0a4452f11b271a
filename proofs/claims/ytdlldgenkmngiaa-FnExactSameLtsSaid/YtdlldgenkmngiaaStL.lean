/- Two transition systems held against each other, by the reference. -/
import Derived.Test.YtdlldgenkmngiaaProg
import Derived.Test.YtdlldgenkmngiaaMem
import Derived.Test.YtdlldgenkmngiaaMath
import Derived.Test.YtdlldgenkmngiaaBasics
import Derived.Test.YtdlldgenkmngiaaOpenI
import Derived.Test.YtdlldgenkmngiaaHelpI
import Derived.Test.YtdlldgenkmngiaaGrid
import Derived.Test.YtdlldgenkmngiaaRows2
import Derived.Test.YtdlldgenkmngiaaSt
import Derived.Test.YtdlldgenkmngiaaStCmp
import Derived.Test.YtdlldgenkmngiaaStP
import Derived.Laws.StructEq
import Derived.WalkKit
import Derived.BigQuiet
import Derived.BigRegion
import Derived.StillTailTactics
import Derived.Deep.QuietTactic
import Derived.Laws.ResultCell
import Derived.Laws.OwnMore
import Derived.Lib.Hide
import Derived.Outline
set_option linter.unusedVariables false
set_option linter.unusedSimpArgs false
namespace Go.Proofs.Ytdlldgenkmngiaa
open Go.RowKit
set_option maxRecDepth 100000 in
set_option maxHeartbeats 4000000 in
theorem l11Same_q {lo hi lo2 hi2 : Nat} (a b : Lt) {sa2 sa3 : Option Addr} {sc2 sc3 : Nat} {ta2 ta3 : Option Addr} {tc2 tc3 : Nat} (ba bb : Nat) (w : World) (hn : wtLt a ≤ 1048576) (hs2 : GS w lo hi (.slice sa2 a.labs.length sc2) a.labs) (hs3 : GEg w lo hi (.slice sa3 a.edges.length sc3) a.edges) (ht2 : GS w lo2 hi2 (.slice ta2 b.labs.length tc2) b.labs) (ht3 : GEg w lo2 hi2 (.slice ta3 b.edges.length tc3) b.edges)
    (hA : w.heap[ba]? = some (.cells #[.int .i64 a.st, .int .i64 a.ini, .slice sa2 a.labs.length sc2, .slice sa3 a.edges.length sc3] 37)) (hB : w.heap[bb]? = some (.cells #[.int .i64 b.st, .int .i64 b.ini, .slice ta2 b.labs.length tc2, .slice ta3 b.edges.length tc3] 37)) :
    Calls Try.prog 31 #[.pointer (some ⟨ba, 0, none⟩), .pointer (some ⟨bb, 0, none⟩)] w fun e w' => e = .returned (.bool (decide (a = b))) ∧ ∃ m, w' = w.drewN m := by
  unfold wtLt totS totEg at hn
  have p0 : w.cell? ⟨ba, 0, none⟩ = some (.int .i64 a.st) := by simp [World.cell?, hA]
  have q0 : w.cell? ⟨bb, 0, none⟩ = some (.int .i64 b.st) := by simp [World.cell?, hB]
  have p1 : w.cell? ⟨ba, 1, none⟩ = some (.int .i64 a.ini) := by simp [World.cell?, hA]
  have q1 : w.cell? ⟨bb, 1, none⟩ = some (.int .i64 b.ini) := by simp [World.cell?, hB]
  have p2 : w.cell? ⟨ba, 2, none⟩ = some (.slice sa2 a.labs.length sc2) := by simp [World.cell?, hA]
  have q2 : w.cell? ⟨bb, 2, none⟩ = some (.slice ta2 b.labs.length tc2) := by simp [World.cell?, hB]
  have p3 : w.cell? ⟨ba, 3, none⟩ = some (.slice sa3 a.edges.length sc3) := by simp [World.cell?, hA]
  have q3 : w.cell? ⟨bb, 3, none⟩ = some (.slice ta3 b.edges.length tc3) := by simp [World.cell?, hB]
  have Hs2 := Lib.hid hs2
  have Ht2 := Lib.hid ht2
  have Hs3 := Lib.hid hs3
  have Ht3 := Lib.hid ht3
  have hma := (Rws.slice hs3)
  have hmb := (Rws.slice ht3)
  obtain ⟨_, _, eA, hca, hma⟩ := hma
  obtain ⟨_, _, eB, hcb, hmb⟩ := hmb
  cases eA
  cases eB
  unfold maxLen at hma hmb
  have hll : a.labs.length ≤ 1048576 := by omega
  have hle : a.edges.length ≤ 1048576 := by omega
  clear hA hB hs2 ht2 hs3 ht3 hn
  by_cases c0 : a.st = b.st
  · by_cases c1 : a.ini = b.ini
    · by_cases c2 : a.labs = b.labs
      · by_cases c3 : a.edges.length = b.edges.length
        · have n0 : (a.st != b.st) = false := by simpa using c0
          have n1 : (a.ini != b.ini) = false := by simpa using c1
          have n3 : ((a.edges.length : Int) != (b.edges.length : Int)) = false := by simp; omega
          have hc := fun q => quiet_eq (l11Texts_q _ _ a.labs b.labs (w.drewN q) hll (Hs2.out.keep (drewN_keep _ _ _ _)) (Ht2.out.keep (drewN_keep _ _ _ _))) (decide_eq_true c2)
          have Hc := Lib.hid hc; clear hc
          have HA : Hid (a.edges = b.edges → a = b) := Lib.hid (fun h => by
            cases a
            cases b
            simp only at c0 c1 c2 h
            rw [c0, c1, c2, h])
          rw [← c3] at q3 Ht3 hcb
          obtain ⟨n, hn⟩ : ∃ n, n = a.edges.length := ⟨_, rfl⟩
          rw [← hn] at p3 q3 Hs3 Ht3 hle c3 hca hcb n3
          have Hxn := Lib.hid hn
          have Hyn := Lib.hid c3
          rw [← c3] at n3
          clear c0 c1 c2 c3 hn
          go_enter Try.func31, Try.ntmps31
          go_wp2_with fail
          go_quiet ((go_at_call 60; exact Calls.quiet_of (Hc.out _)))
          go_wp2_with fail
          go_loopw [5] (fun si wr => ∃ k : Nat, k ≤ n ∧ si = .int .i64 k ∧ Hid (a.edges.take k = b.edges.take k) ∧ ∃ m, wr = w.drewN m) (fun si _ => n - (intOf si).toNat)
          case atStart => exact ⟨0, Nat.zero_le _, rfl, Lib.hid rfl, _, rfl⟩
          case round =>
            obtain ⟨k, hk, rfl, heq, m, rfl⟩ := hrel
            by_cases hlt : k < n
            · have hkf : k < a.edges.length := by rw [← Hxn.out]; exact hlt
              have hkg : k < b.edges.length := by rw [← Hyn.out]; exact hlt
              obtain ⟨b3, o3, rfl, hb3, u0, u1, u2⟩ := GEg.cells Hs3.out hkf
              obtain ⟨b4, o4, rfl, hb4, v0, v1, v2⟩ := GEg.cells Ht3.out hkg
              obtain ⟨Y, hY⟩ : ∃ Y, Y = gnth eg0 a.edges k := ⟨_, rfl⟩
              obtain ⟨Z, hZ⟩ : ∃ Z, Z = gnth eg0 b.edges k := ⟨_, rfl⟩
              rw [← hY] at u0 u1 u2
              rw [← hZ] at v0 v1 v2
              have HY := Lib.hid hY
              have HZ := Lib.hid hZ
              clear hY hZ
              by_cases e : Y = Z
              · have HN2 : Hid (a.edges.take (k + 1) = b.edges.take (k + 1)) := Lib.hid (by rw [take_gnth eg0 _ k hkf, take_gnth eg0 _ k hkg, heq.out, ← HY.out, ← HZ.out, e])
                have hN : ∀ W, (binOp .neq 74 (.agg #[.int .i64 Y.frm, .int .i64 Y.lab, .int .i64 Y.too]) (.agg #[.int .i64 Z.frm, .int .i64 Z.lab, .int .i64 Z.too])).run Try.prog W = .ok (.bool false) W := fun W => by rw [neqEg_run, decide_eq_true e]; rfl
                clear e
                go_wp2_with fail
                go_quiet (fail)
                go_wp2_with fail
                go_roundw
                case rel => exact ⟨k + 1, by omega, by go_num, HN2, _, rfl⟩
                case measure => simp [intOf]; omega
              · have HF2 : Hid (decide (a = b) = false) := Lib.hid (decide_eq_false fun h => e (by rw [HY.out, HZ.out, h]))
                have hN : ∀ W, (binOp .neq 74 (.agg #[.int .i64 Y.frm, .int .i64 Y.lab, .int .i64 Y.too]) (.agg #[.int .i64 Z.frm, .int .i64 Z.lab, .int .i64 Z.too])).run Try.prog W = .ok (.bool true) W := fun W => by rw [neqEg_run, decide_eq_false e]; rfl
                clear e
                go_wp2_with fail
                go_quiet (fail)
                go_wp2_with fail
                go_ret
                rw [HF2.out]
                exact ⟨rfl, _, World.drewN_drewN _ _ _⟩
            · obtain rfl : k = n := by omega
              have HE : Hid (decide (a = b) = true) := Lib.hid (by
                have h := heq.out
                rw [List.take_of_length_le (by rw [Hxn.out]; exact Nat.le_refl _), List.take_of_length_le (by rw [Hyn.out]; exact Nat.le_refl _)] at h
                exact decide_eq_true (HA.out h))
              go_wp2_with fail
              go_ret
              exact ⟨by rw [HE.out]; rfl, _, rfl⟩
        · have HF2 : Hid (decide (a = b) = false) := Lib.hid (decide_eq_false fun h => c3 (by rw [h]))
          have n0 : (a.st != b.st) = false := by simpa using c0
          have n1 : (a.ini != b.ini) = false := by simpa using c1
          have hc := fun q => quiet_eq (l11Texts_q _ _ a.labs b.labs (w.drewN q) hll (Hs2.out.keep (drewN_keep _ _ _ _)) (Ht2.out.keep (drewN_keep _ _ _ _))) (decide_eq_true c2)
          have n3 : ((a.edges.length : Int) != (b.edges.length : Int)) = true := by simp; omega
          have Hc := Lib.hid hc; clear hc
          clear c0 c1 c2 c3
          go_enter Try.func31, Try.ntmps31
          go_wp2_with fail
          go_quiet ((go_at_call 60; exact Calls.quiet_of (Hc.out _)))
          go_wp2_with fail
          go_ret
          rw [HF2.out]
          exact ⟨rfl, _, rfl⟩
      · have HF2 : Hid (decide (a = b) = false) := Lib.hid (decide_eq_false fun h => c2 (by rw [h]))
        have n0 : (a.st != b.st) = false := by simpa using c0
        have n1 : (a.ini != b.ini) = false := by simpa using c1
        have hc := fun q => quiet_eq (l11Texts_q _ _ a.labs b.labs (w.drewN q) hll (Hs2.out.keep (drewN_keep _ _ _ _)) (Ht2.out.keep (drewN_keep _ _ _ _))) (decide_eq_false c2)
        have Hc := Lib.hid hc; clear hc
        clear c0 c1 c2
        go_enter Try.func31, Try.ntmps31
        go_wp2_with fail
        go_quiet ((go_at_call 60; exact Calls.quiet_of (Hc.out _)))
        go_wp2_with fail
        go_ret
        rw [HF2.out]
        exact ⟨rfl, _, rfl⟩
    · have HF2 : Hid (decide (a = b) = false) := Lib.hid (decide_eq_false fun h => c1 (by rw [h]))
      have n0 : (a.st != b.st) = false := by simpa using c0
      have n1 : (a.ini != b.ini) = true := by simpa using c1
      clear c0 c1
      go_enter Try.func31, Try.ntmps31
      go_wp2_with fail
      go_quiet (fail)
      go_wp2_with fail
      go_ret
      rw [HF2.out]
      exact ⟨rfl, _, rfl⟩
  · have HF2 : Hid (decide (a = b) = false) := Lib.hid (decide_eq_false fun h => c0 (by rw [h]))
    have n0 : (a.st != b.st) = true := by simpa using c0
    clear c0
    go_enter Try.func31, Try.ntmps31
    go_wp2_with fail
    go_quiet (fail)
    go_wp2_with fail
    go_ret
    rw [HF2.out]
    exact ⟨rfl, _, rfl⟩
set_option maxRecDepth 100000 in
theorem spec_SameLts_any {lo hi lo2 hi2 : Nat} (a b : Lt) {sa2 sa3 : Option Addr} {sc2 sc3 : Nat} {ta2 ta3 : Option Addr} {tc2 tc3 : Nat} (w : World) (hn : wtLt a ≤ 1048576) (hs2 : GS w lo hi (.slice sa2 a.labs.length sc2) a.labs) (hs3 : GEg w lo hi (.slice sa3 a.edges.length sc3) a.edges) (ht2 : GS w lo2 hi2 (.slice ta2 b.labs.length tc2) b.labs) (ht3 : GEg w lo2 hi2 (.slice ta3 b.edges.length tc3) b.edges) :
    Calls Try.prog 12 #[.agg #[.int .i64 a.st, .int .i64 a.ini, .slice sa2 a.labs.length sc2, .slice sa3 a.edges.length sc3], .agg #[.int .i64 b.st, .int .i64 b.ini, .slice ta2 b.labs.length tc2, .slice ta3 b.edges.length tc3]] w fun e w' => e = .returned (.bool (decide (a = b))) ∧ Below w.heap.size w w' := by
  go_enter Try.func12, Try.ntmps12
  have hB0 : ∀ x y : Obj, Below w.heap.size w ((w.alloc x).alloc y) := fun x y => ((Below.refl _ w).alloc (Nat.le_refl _) _).alloc (by simp) _
  go_wp2_with fail
  refine (calls_below (l11Same_q a b w.heap.size (w.heap.size + 1) _ hn (hs2.keep (Keep.of_below _ _ (hB0 _ _))) (hs3.keep (Keep.of_below _ _ (hB0 _ _))) (ht2.keep (Keep.of_below _ _ (hB0 _ _))) (ht3.keep (Keep.of_below _ _ (hB0 _ _))) ?h1 ?h2)).mono ?_
  case h1 =>
    show ((w.heap.push _).push _)[w.heap.size]? = some _
    rw [Array.getElem?_push, if_neg (by simp), Array.getElem?_push, if_pos (by simp)]
  case h2 =>
    show ((w.heap.push _).push _)[w.heap.size + 1]? = some _
    rw [Array.getElem?_push, if_pos (by simp)]
  rintro e w1 ⟨rfl, hb1⟩
  go_wp2_with fail
  go_ret
  exact ⟨rfl, (hB0 _ _).trans (hb1.mono (hB0 _ _).size)⟩
end Go.Proofs.Ytdlldgenkmngiaa
