/- Lists held against each other, by the library and by the reference. -/
import Derived.Test.YtdlldgenkmngiaaProg
import Derived.Test.YtdlldgenkmngiaaMem
import Derived.Test.YtdlldgenkmngiaaMath
import Derived.Test.YtdlldgenkmngiaaBasics
import Derived.Test.YtdlldgenkmngiaaOpenI
import Derived.Test.YtdlldgenkmngiaaHelpI
import Derived.Test.YtdlldgenkmngiaaGrid
import Derived.Test.YtdlldgenkmngiaaRows2
import Derived.Test.YtdlldgenkmngiaaSt
import Derived.Test.YtdlldgenkmngiaaCmp
import Derived.Laws.StructEq
import Derived.WalkKit
import Derived.BigQuiet
import Derived.BigRegion
import Derived.StillTailTactics
import Derived.Deep.QuietTactic
import Derived.Laws.ResultCell
import Derived.Laws.OwnMore
import Derived.Lib.Hide
import Derived.Outline
set_option linter.unusedVariables false
set_option linter.unusedSimpArgs false
namespace Go.Proofs.Ytdlldgenkmngiaa
open Go.RowKit
theorem neqEg_run (Y Z : Eg) (W : World) : (binOp .neq 74 (.agg #[.int .i64 Y.frm, .int .i64 Y.lab, .int .i64 Y.too]) (.agg #[.int .i64 Z.frm, .int .i64 Z.lab, .int .i64 Z.too])).run Try.prog W = .ok (.bool (!decide (Y = Z))) W := by
  have hS : Try.prog.underlying 74 = some (.struct (Try.prog.fieldsOf 74)) := by kernel_rfl
  have hp : Try.prog.stoodInHeld 74 = false := by kernel_rfl
  have hlt : ∀ x y : ByteArray, (x.toList == y.toList) = decide (x = y) := beq_txt
  have u0 := Try.underlying2
  have v0 := Try.isAgg2
  have z0 := Try.sizeOf2
  rw [run_neq_struct, show (10000 : Nat) = 9999 + 1 from rfl, run_equalIn_agg W 9999 74 _ _ hS hp]
  simp only [Program.fieldsOf, Try.underlying74]
  go_simp
  obtain ⟨a0, a1, a2⟩ := Y
  obtain ⟨b0, b1, b2⟩ := Z
  by_cases h0 : a0 = b0 <;> by_cases h1 : a1 = b1 <;> by_cases h2 : a2 = b2 <;> simp [hlt, h0, h1, h2, Eg.mk.injEq]
theorem neqMt_run (Y Z : Mt) (W : World) : (binOp .neq 94 (.agg #[.string Y.left, .string Y.right, .string Y.res]) (.agg #[.string Z.left, .string Z.right, .string Z.res])).run Try.prog W = .ok (.bool (!decide (Y = Z))) W := by
  have hS : Try.prog.underlying 94 = some (.struct (Try.prog.fieldsOf 94)) := by kernel_rfl
  have hp : Try.prog.stoodInHeld 94 = false := by kernel_rfl
  have hlt : ∀ x y : ByteArray, (x.toList == y.toList) = decide (x = y) := beq_txt
  have u0 := Try.underlying9
  have v0 := Try.isAgg9
  have z0 := Try.sizeOf9
  rw [run_neq_struct, show (10000 : Nat) = 9999 + 1 from rfl, run_equalIn_agg W 9999 94 _ _ hS hp]
  simp only [Program.fieldsOf, Try.underlying94]
  go_simp
  obtain ⟨a0, a1, a2⟩ := Y
  obtain ⟨b0, b1, b2⟩ := Z
  by_cases h0 : a0 = b0 <;> by_cases h1 : a1 = b1 <;> by_cases h2 : a2 = b2 <;> simp [hlt, h0, h1, h2, Mt.mk.injEq]
theorem neqTm_run (Y Z : Tm) (W : World) : (binOp .neq 130 (.agg #[.int .i64 Y.kind, .int .i64 Y.num]) (.agg #[.int .i64 Z.kind, .int .i64 Z.num])).run Try.prog W = .ok (.bool (!decide (Y = Z))) W := by
  have hS : Try.prog.underlying 130 = some (.struct (Try.prog.fieldsOf 130)) := by kernel_rfl
  have hp : Try.prog.stoodInHeld 130 = false := by kernel_rfl
  have hlt : ∀ x y : ByteArray, (x.toList == y.toList) = decide (x = y) := beq_txt
  have u0 := Try.underlying2
  have v0 := Try.isAgg2
  have z0 := Try.sizeOf2
  rw [run_neq_struct, show (10000 : Nat) = 9999 + 1 from rfl, run_equalIn_agg W 9999 130 _ _ hS hp]
  simp only [Program.fieldsOf, Try.underlying130]
  go_simp
  obtain ⟨a0, a1⟩ := Y
  obtain ⟨b0, b1⟩ := Z
  by_cases h0 : a0 = b0 <;> by_cases h1 : a1 = b1 <;> simp [hlt, h0, h1, Tm.mk.injEq]
set_option maxRecDepth 100000 in
set_option maxHeartbeats 1600000 in
theorem sEqI_q {lo hi lo2 hi2 : Nat} (va vb : Value) (f g : List Int) (w : World) (hn : f.length ≤ 1048576) (ha : GI w lo hi va f) (hb : GI w lo2 hi2 vb g) :
    Calls Try.prog 73 #[va, vb] w fun e w' => e = .returned (.bool (decide (f = g))) ∧ ∃ m, w' = w.drewN m := by
  have HVa := Lib.hid ha
  have HVb := Lib.hid hb
  obtain ⟨a, capa, rfl, hcapa, hma⟩ := Rws.slice ha
  obtain ⟨b, capb, rfl, hcapb, hmb⟩ := Rws.slice hb
  unfold maxLen at hma hmb
  clear ha hb
  by_cases hl : f.length = g.length
  · obtain ⟨n, hxn⟩ : ∃ n, n = f.length := ⟨_, rfl⟩
    rw [← hxn] at hl
    rw [← hl] at hcapb HVb ⊢
    rw [← hxn] at hcapa HVa hn ⊢
    have Hxn := Lib.hid hxn; clear hxn
    have Hyn := Lib.hid hl; clear hl
    go_enter Try.func73, Try.ntmps73
    go_wp2_with fail
    go_loopw [13] (fun si wr => ∃ k : Nat, k ≤ n ∧ si = .int .i64 k ∧ Hid (f.take k = g.take k) ∧ ∃ m, wr = w.drewN m) (fun si _ => n - (intOf si).toNat)
    case atStart => exact ⟨0, Nat.zero_le _, rfl, Lib.hid rfl, 0, rfl⟩
    case round =>
      obtain ⟨k, hk, rfl, heq, m, rfl⟩ := hrel
      by_cases hlt : k < n
      · have hkf : k < f.length := by rw [← Hxn.out]; exact hlt
        have hkg : k < g.length := by rw [← Hyn.out]; exact hlt
        obtain ⟨ba, oa, rfl, hba, p0⟩ := GI.cells HVa.out hkf
        obtain ⟨bb, ob, rfl, hbb, q0⟩ := GI.cells HVb.out hkg
        obtain ⟨Y, hY⟩ : ∃ Y, Y = nth f k := ⟨_, rfl⟩
        obtain ⟨Z, hZ⟩ : ∃ Z, Z = nth g k := ⟨_, rfl⟩
        rw [← hY] at p0
        rw [← hZ] at q0
        have HY := Lib.hid hY
        have HZ := Lib.hid hZ
        clear hY hZ
        by_cases e : Y = Z
        · have HN2 : Hid (f.take (k + 1) = g.take (k + 1)) := Lib.hid (by rw [take_nth f k hkf, take_nth g k hkg, heq.out, ← HY.out, ← HZ.out, e])
          have hN : (Y != Z) = false := by simpa using e
          clear e
          go_wp2_with fail
          go_quiet (fail)
          go_wp2_with fail
          go_roundw
          case rel => exact ⟨k + 1, by omega, by go_num, HN2, _, rfl⟩
          case measure => simp [intOf]; omega
        · have HF2 : Hid (decide (f = g) = false) := Lib.hid (decide_eq_false fun h => e (by rw [HY.out, HZ.out, h]))
          have hN : (Y != Z) = true := by simpa using e
          clear e
          go_wp2_with fail
          go_quiet (fail)
          go_wp2_with fail
          go_ret
          rw [HF2.out]
          exact ⟨rfl, _, World.drewN_drewN _ _ _⟩
      · obtain rfl : k = n := by omega
        have HE : Hid (decide (f = g) = true) := Lib.hid (by
          have h := heq.out
          rw [List.take_of_length_le (by rw [Hxn.out]; exact Nat.le_refl _), List.take_of_length_le (by rw [Hyn.out]; exact Nat.le_refl _)] at h
          exact decide_eq_true h)
        go_wp2_with fail
        go_ret
        exact ⟨by rw [HE.out]; rfl, _, rfl⟩
  · have hne : decide (f = g) = false := decide_eq_false fun e => hl (by rw [e])
    rw [hne]
    have h1 : ((f.length : Int) != (g.length : Int)) = true := by simp; omega
    clear hne hl
    go_enter Try.func73, Try.ntmps73
    go_wp2_with fail
    go_ret
    exact ⟨rfl, 0, rfl⟩
set_option maxRecDepth 100000 in
set_option maxHeartbeats 1600000 in
theorem sEqS_q {lo hi lo2 hi2 : Nat} (va vb : Value) (f g : List ByteArray) (w : World) (hn : f.length ≤ 1048576) (ha : GS w lo hi va f) (hb : GS w lo2 hi2 vb g) :
    Calls Try.prog 34 #[va, vb] w fun e w' => e = .returned (.bool (decide (f = g))) ∧ ∃ m, w' = w.drewN m := by
  have HVa := Lib.hid ha
  have HVb := Lib.hid hb
  obtain ⟨a, capa, rfl, hcapa, hma⟩ := Rws.slice ha
  obtain ⟨b, capb, rfl, hcapb, hmb⟩ := Rws.slice hb
  unfold maxLen at hma hmb
  clear ha hb
  by_cases hl : f.length = g.length
  · obtain ⟨n, hxn⟩ : ∃ n, n = f.length := ⟨_, rfl⟩
    rw [← hxn] at hl
    rw [← hl] at hcapb HVb ⊢
    rw [← hxn] at hcapa HVa hn ⊢
    have Hxn := Lib.hid hxn; clear hxn
    have Hyn := Lib.hid hl; clear hl
    go_enter Try.func34, Try.ntmps34
    go_wp2_with fail
    go_loopw [13] (fun si wr => ∃ k : Nat, k ≤ n ∧ si = .int .i64 k ∧ Hid (f.take k = g.take k) ∧ ∃ m, wr = w.drewN m) (fun si _ => n - (intOf si).toNat)
    case atStart => exact ⟨0, Nat.zero_le _, rfl, Lib.hid rfl, 0, rfl⟩
    case round =>
      obtain ⟨k, hk, rfl, heq, m, rfl⟩ := hrel
      by_cases hlt : k < n
      · have hkf : k < f.length := by rw [← Hxn.out]; exact hlt
        have hkg : k < g.length := by rw [← Hyn.out]; exact hlt
        obtain ⟨ba, oa, rfl, hba, p0⟩ := GS.cells HVa.out hkf
        obtain ⟨bb, ob, rfl, hbb, q0⟩ := GS.cells HVb.out hkg
        obtain ⟨Y, hY⟩ : ∃ Y, Y = snth f k := ⟨_, rfl⟩
        obtain ⟨Z, hZ⟩ : ∃ Z, Z = snth g k := ⟨_, rfl⟩
        rw [← hY] at p0
        rw [← hZ] at q0
        have HY := Lib.hid hY
        have HZ := Lib.hid hZ
        clear hY hZ
        by_cases e : Y = Z
        · have HN2 : Hid (f.take (k + 1) = g.take (k + 1)) := Lib.hid (by rw [take_snth f k hkf, take_snth g k hkg, heq.out, ← HY.out, ← HZ.out, e])
          have hN : (Y.toList == Z.toList) = true := by rw [beq_txt]; exact decide_eq_true e
          clear e
          go_wp2_with fail
          go_quiet (fail)
          go_wp2_with fail
          go_roundw
          case rel => exact ⟨k + 1, by omega, by go_num, HN2, _, rfl⟩
          case measure => simp [intOf]; omega
        · have HF2 : Hid (decide (f = g) = false) := Lib.hid (decide_eq_false fun h => e (by rw [HY.out, HZ.out, h]))
          have hN : (Y.toList == Z.toList) = false := by rw [beq_txt]; exact decide_eq_false e
          clear e
          go_wp2_with fail
          go_quiet (fail)
          go_wp2_with fail
          go_ret
          rw [HF2.out]
          exact ⟨rfl, _, World.drewN_drewN _ _ _⟩
      · obtain rfl : k = n := by omega
        have HE : Hid (decide (f = g) = true) := Lib.hid (by
          have h := heq.out
          rw [List.take_of_length_le (by rw [Hxn.out]; exact Nat.le_refl _), List.take_of_length_le (by rw [Hyn.out]; exact Nat.le_refl _)] at h
          exact decide_eq_true h)
        go_wp2_with fail
        go_ret
        exact ⟨by rw [HE.out]; rfl, _, rfl⟩
  · have hne : decide (f = g) = false := decide_eq_false fun e => hl (by rw [e])
    rw [hne]
    have h1 : ((f.length : Int) != (g.length : Int)) = true := by simp; omega
    clear hne hl
    go_enter Try.func34, Try.ntmps34
    go_wp2_with fail
    go_ret
    exact ⟨rfl, 0, rfl⟩
set_option maxRecDepth 100000 in
set_option maxHeartbeats 1600000 in
theorem sEqEg_q {lo hi lo2 hi2 : Nat} (va vb : Value) (f g : List Eg) (w : World) (hn : f.length ≤ 1048576) (ha : GEg w lo hi va f) (hb : GEg w lo2 hi2 vb g) :
    Calls Try.prog 35 #[va, vb] w fun e w' => e = .returned (.bool (decide (f = g))) ∧ ∃ m, w' = w.drewN m := by
  have HVa := Lib.hid ha
  have HVb := Lib.hid hb
  obtain ⟨a, capa, rfl, hcapa, hma⟩ := Rws.slice ha
  obtain ⟨b, capb, rfl, hcapb, hmb⟩ := Rws.slice hb
  unfold maxLen at hma hmb
  clear ha hb
  by_cases hl : f.length = g.length
  · obtain ⟨n, hxn⟩ : ∃ n, n = f.length := ⟨_, rfl⟩
    rw [← hxn] at hl
    rw [← hl] at hcapb HVb ⊢
    rw [← hxn] at hcapa HVa hn ⊢
    have Hxn := Lib.hid hxn; clear hxn
    have Hyn := Lib.hid hl; clear hl
    go_enter Try.func35, Try.ntmps35
    go_wp2_with fail
    go_loopw [13] (fun si wr => ∃ k : Nat, k ≤ n ∧ si = .int .i64 k ∧ Hid (f.take k = g.take k) ∧ ∃ m, wr = w.drewN m) (fun si _ => n - (intOf si).toNat)
    case atStart => exact ⟨0, Nat.zero_le _, rfl, Lib.hid rfl, 0, rfl⟩
    case round =>
      obtain ⟨k, hk, rfl, heq, m, rfl⟩ := hrel
      by_cases hlt : k < n
      · have hkf : k < f.length := by rw [← Hxn.out]; exact hlt
        have hkg : k < g.length := by rw [← Hyn.out]; exact hlt
        obtain ⟨ba, oa, rfl, hba, p0, p1, p2⟩ := GEg.cells HVa.out hkf
        obtain ⟨bb, ob, rfl, hbb, q0, q1, q2⟩ := GEg.cells HVb.out hkg
        obtain ⟨Y, hY⟩ : ∃ Y, Y = gnth eg0 f k := ⟨_, rfl⟩
        obtain ⟨Z, hZ⟩ : ∃ Z, Z = gnth eg0 g k := ⟨_, rfl⟩
        rw [← hY] at p0 p1 p2
        rw [← hZ] at q0 q1 q2
        have HY := Lib.hid hY
        have HZ := Lib.hid hZ
        clear hY hZ
        by_cases e : Y = Z
        · have HN2 : Hid (f.take (k + 1) = g.take (k + 1)) := Lib.hid (by rw [take_gnth eg0 f k hkf, take_gnth eg0 g k hkg, heq.out, ← HY.out, ← HZ.out, e])
          have hN : ∀ W, (binOp .neq 74 (.agg #[.int .i64 Y.frm, .int .i64 Y.lab, .int .i64 Y.too]) (.agg #[.int .i64 Z.frm, .int .i64 Z.lab, .int .i64 Z.too])).run Try.prog W = .ok (.bool false) W := fun W => by rw [neqEg_run, decide_eq_true e]; rfl
          clear e
          go_wp2_with fail
          go_quiet (fail)
          go_wp2_with fail
          go_roundw
          case rel => exact ⟨k + 1, by omega, by go_num, HN2, _, rfl⟩
          case measure => simp [intOf]; omega
        · have HF2 : Hid (decide (f = g) = false) := Lib.hid (decide_eq_false fun h => e (by rw [HY.out, HZ.out, h]))
          have hN : ∀ W, (binOp .neq 74 (.agg #[.int .i64 Y.frm, .int .i64 Y.lab, .int .i64 Y.too]) (.agg #[.int .i64 Z.frm, .int .i64 Z.lab, .int .i64 Z.too])).run Try.prog W = .ok (.bool true) W := fun W => by rw [neqEg_run, decide_eq_false e]; rfl
          clear e
          go_wp2_with fail
          go_quiet (fail)
          go_wp2_with fail
          go_ret
          rw [HF2.out]
          exact ⟨rfl, _, World.drewN_drewN _ _ _⟩
      · obtain rfl : k = n := by omega
        have HE : Hid (decide (f = g) = true) := Lib.hid (by
          have h := heq.out
          rw [List.take_of_length_le (by rw [Hxn.out]; exact Nat.le_refl _), List.take_of_length_le (by rw [Hyn.out]; exact Nat.le_refl _)] at h
          exact decide_eq_true h)
        go_wp2_with fail
        go_ret
        exact ⟨by rw [HE.out]; rfl, _, rfl⟩
  · have hne : decide (f = g) = false := decide_eq_false fun e => hl (by rw [e])
    rw [hne]
    have h1 : ((f.length : Int) != (g.length : Int)) = true := by simp; omega
    clear hne hl
    go_enter Try.func35, Try.ntmps35
    go_wp2_with fail
    go_ret
    exact ⟨rfl, 0, rfl⟩
set_option maxRecDepth 100000 in
set_option maxHeartbeats 1600000 in
theorem sEqMt_q {lo hi lo2 hi2 : Nat} (va vb : Value) (f g : List Mt) (w : World) (hn : f.length ≤ 1048576) (ha : GMt w lo hi va f) (hb : GMt w lo2 hi2 vb g) :
    Calls Try.prog 49 #[va, vb] w fun e w' => e = .returned (.bool (decide (f = g))) ∧ ∃ m, w' = w.drewN m := by
  have HVa := Lib.hid ha
  have HVb := Lib.hid hb
  obtain ⟨a, capa, rfl, hcapa, hma⟩ := Rws.slice ha
  obtain ⟨b, capb, rfl, hcapb, hmb⟩ := Rws.slice hb
  unfold maxLen at hma hmb
  clear ha hb
  by_cases hl : f.length = g.length
  · obtain ⟨n, hxn⟩ : ∃ n, n = f.length := ⟨_, rfl⟩
    rw [← hxn] at hl
    rw [← hl] at hcapb HVb ⊢
    rw [← hxn] at hcapa HVa hn ⊢
    have Hxn := Lib.hid hxn; clear hxn
    have Hyn := Lib.hid hl; clear hl
    go_enter Try.func49, Try.ntmps49
    go_wp2_with fail
    go_loopw [13] (fun si wr => ∃ k : Nat, k ≤ n ∧ si = .int .i64 k ∧ Hid (f.take k = g.take k) ∧ ∃ m, wr = w.drewN m) (fun si _ => n - (intOf si).toNat)
    case atStart => exact ⟨0, Nat.zero_le _, rfl, Lib.hid rfl, 0, rfl⟩
    case round =>
      obtain ⟨k, hk, rfl, heq, m, rfl⟩ := hrel
      by_cases hlt : k < n
      · have hkf : k < f.length := by rw [← Hxn.out]; exact hlt
        have hkg : k < g.length := by rw [← Hyn.out]; exact hlt
        obtain ⟨ba, oa, rfl, hba, p0, p1, p2⟩ := GMt.cells HVa.out hkf
        obtain ⟨bb, ob, rfl, hbb, q0, q1, q2⟩ := GMt.cells HVb.out hkg
        obtain ⟨Y, hY⟩ : ∃ Y, Y = gnth mt0 f k := ⟨_, rfl⟩
        obtain ⟨Z, hZ⟩ : ∃ Z, Z = gnth mt0 g k := ⟨_, rfl⟩
        rw [← hY] at p0 p1 p2
        rw [← hZ] at q0 q1 q2
        have HY := Lib.hid hY
        have HZ := Lib.hid hZ
        clear hY hZ
        by_cases e : Y = Z
        · have HN2 : Hid (f.take (k + 1) = g.take (k + 1)) := Lib.hid (by rw [take_gnth mt0 f k hkf, take_gnth mt0 g k hkg, heq.out, ← HY.out, ← HZ.out, e])
          have hN : ∀ W, (binOp .neq 94 (.agg #[.string Y.left, .string Y.right, .string Y.res]) (.agg #[.string Z.left, .string Z.right, .string Z.res])).run Try.prog W = .ok (.bool false) W := fun W => by rw [neqMt_run, decide_eq_true e]; rfl
          clear e
          go_wp2_with fail
          go_quiet (fail)
          go_wp2_with fail
          go_roundw
          case rel => exact ⟨k + 1, by omega, by go_num, HN2, _, rfl⟩
          case measure => simp [intOf]; omega
        · have HF2 : Hid (decide (f = g) = false) := Lib.hid (decide_eq_false fun h => e (by rw [HY.out, HZ.out, h]))
          have hN : ∀ W, (binOp .neq 94 (.agg #[.string Y.left, .string Y.right, .string Y.res]) (.agg #[.string Z.left, .string Z.right, .string Z.res])).run Try.prog W = .ok (.bool true) W := fun W => by rw [neqMt_run, decide_eq_false e]; rfl
          clear e
          go_wp2_with fail
          go_quiet (fail)
          go_wp2_with fail
          go_ret
          rw [HF2.out]
          exact ⟨rfl, _, World.drewN_drewN _ _ _⟩
      · obtain rfl : k = n := by omega
        have HE : Hid (decide (f = g) = true) := Lib.hid (by
          have h := heq.out
          rw [List.take_of_length_le (by rw [Hxn.out]; exact Nat.le_refl _), List.take_of_length_le (by rw [Hyn.out]; exact Nat.le_refl _)] at h
          exact decide_eq_true h)
        go_wp2_with fail
        go_ret
        exact ⟨by rw [HE.out]; rfl, _, rfl⟩
  · have hne : decide (f = g) = false := decide_eq_false fun e => hl (by rw [e])
    rw [hne]
    have h1 : ((f.length : Int) != (g.length : Int)) = true := by simp; omega
    clear hne hl
    go_enter Try.func49, Try.ntmps49
    go_wp2_with fail
    go_ret
    exact ⟨rfl, 0, rfl⟩
set_option maxRecDepth 100000 in
set_option maxHeartbeats 1600000 in
theorem sEqTm_q {lo hi lo2 hi2 : Nat} (va vb : Value) (f g : List Tm) (w : World) (hn : f.length ≤ 1048576) (ha : GTm w lo hi va f) (hb : GTm w lo2 hi2 vb g) :
    Calls Try.prog 81 #[va, vb] w fun e w' => e = .returned (.bool (decide (f = g))) ∧ ∃ m, w' = w.drewN m := by
  have HVa := Lib.hid ha
  have HVb := Lib.hid hb
  obtain ⟨a, capa, rfl, hcapa, hma⟩ := Rws.slice ha
  obtain ⟨b, capb, rfl, hcapb, hmb⟩ := Rws.slice hb
  unfold maxLen at hma hmb
  clear ha hb
  by_cases hl : f.length = g.length
  · obtain ⟨n, hxn⟩ : ∃ n, n = f.length := ⟨_, rfl⟩
    rw [← hxn] at hl
    rw [← hl] at hcapb HVb ⊢
    rw [← hxn] at hcapa HVa hn ⊢
    have Hxn := Lib.hid hxn; clear hxn
    have Hyn := Lib.hid hl; clear hl
    go_enter Try.func81, Try.ntmps81
    go_wp2_with fail
    go_loopw [13] (fun si wr => ∃ k : Nat, k ≤ n ∧ si = .int .i64 k ∧ Hid (f.take k = g.take k) ∧ ∃ m, wr = w.drewN m) (fun si _ => n - (intOf si).toNat)
    case atStart => exact ⟨0, Nat.zero_le _, rfl, Lib.hid rfl, 0, rfl⟩
    case round =>
      obtain ⟨k, hk, rfl, heq, m, rfl⟩ := hrel
      by_cases hlt : k < n
      · have hkf : k < f.length := by rw [← Hxn.out]; exact hlt
        have hkg : k < g.length := by rw [← Hyn.out]; exact hlt
        obtain ⟨ba, oa, rfl, hba, p0, p1⟩ := GTm.cells HVa.out hkf
        obtain ⟨bb, ob, rfl, hbb, q0, q1⟩ := GTm.cells HVb.out hkg
        obtain ⟨Y, hY⟩ : ∃ Y, Y = gnth tm0 f k := ⟨_, rfl⟩
        obtain ⟨Z, hZ⟩ : ∃ Z, Z = gnth tm0 g k := ⟨_, rfl⟩
        rw [← hY] at p0 p1
        rw [← hZ] at q0 q1
        have HY := Lib.hid hY
        have HZ := Lib.hid hZ
        clear hY hZ
        by_cases e : Y = Z
        · have HN2 : Hid (f.take (k + 1) = g.take (k + 1)) := Lib.hid (by rw [take_gnth tm0 f k hkf, take_gnth tm0 g k hkg, heq.out, ← HY.out, ← HZ.out, e])
          have hN : ∀ W, (binOp .neq 130 (.agg #[.int .i64 Y.kind, .int .i64 Y.num]) (.agg #[.int .i64 Z.kind, .int .i64 Z.num])).run Try.prog W = .ok (.bool false) W := fun W => by rw [neqTm_run, decide_eq_true e]; rfl
          clear e
          go_wp2_with fail
          go_quiet (fail)
          go_wp2_with fail
          go_roundw
          case rel => exact ⟨k + 1, by omega, by go_num, HN2, _, rfl⟩
          case measure => simp [intOf]; omega
        · have HF2 : Hid (decide (f = g) = false) := Lib.hid (decide_eq_false fun h => e (by rw [HY.out, HZ.out, h]))
          have hN : ∀ W, (binOp .neq 130 (.agg #[.int .i64 Y.kind, .int .i64 Y.num]) (.agg #[.int .i64 Z.kind, .int .i64 Z.num])).run Try.prog W = .ok (.bool true) W := fun W => by rw [neqTm_run, decide_eq_false e]; rfl
          clear e
          go_wp2_with fail
          go_quiet (fail)
          go_wp2_with fail
          go_ret
          rw [HF2.out]
          exact ⟨rfl, _, World.drewN_drewN _ _ _⟩
      · obtain rfl : k = n := by omega
        have HE : Hid (decide (f = g) = true) := Lib.hid (by
          have h := heq.out
          rw [List.take_of_length_le (by rw [Hxn.out]; exact Nat.le_refl _), List.take_of_length_le (by rw [Hyn.out]; exact Nat.le_refl _)] at h
          exact decide_eq_true h)
        go_wp2_with fail
        go_ret
        exact ⟨by rw [HE.out]; rfl, _, rfl⟩
  · have hne : decide (f = g) = false := decide_eq_false fun e => hl (by rw [e])
    rw [hne]
    have h1 : ((f.length : Int) != (g.length : Int)) = true := by simp; omega
    clear hne hl
    go_enter Try.func81, Try.ntmps81
    go_wp2_with fail
    go_ret
    exact ⟨rfl, 0, rfl⟩
set_option maxRecDepth 100000 in
set_option maxHeartbeats 1600000 in
theorem l11Texts_q {lo hi lo2 hi2 : Nat} (va vb : Value) (f g : List ByteArray) (w : World) (hn : f.length ≤ 1048576) (ha : GS w lo hi va f) (hb : GS w lo2 hi2 vb g) :
    Calls Try.prog 60 #[va, vb] w fun e w' => e = .returned (.bool (decide (f = g))) ∧ ∃ m, w' = w.drewN m := by
  have HVa := Lib.hid ha
  have HVb := Lib.hid hb
  obtain ⟨a, capa, rfl, hcapa, hma⟩ := Rws.slice ha
  obtain ⟨b, capb, rfl, hcapb, hmb⟩ := Rws.slice hb
  unfold maxLen at hma hmb
  clear ha hb
  by_cases hl : f.length = g.length
  · obtain ⟨n, hxn⟩ : ∃ n, n = f.length := ⟨_, rfl⟩
    rw [← hxn] at hl
    rw [← hl] at hcapb HVb ⊢
    rw [← hxn] at hcapa HVa hn ⊢
    have Hxn := Lib.hid hxn; clear hxn
    have Hyn := Lib.hid hl; clear hl
    go_enter Try.func60, Try.ntmps60
    go_wp2_with fail
    go_loopw [5] (fun si wr => ∃ k : Nat, k ≤ n ∧ si = .int .i64 k ∧ Hid (f.take k = g.take k) ∧ ∃ m, wr = w.drewN m) (fun si _ => n - (intOf si).toNat)
    case atStart => exact ⟨0, Nat.zero_le _, rfl, Lib.hid rfl, 0, rfl⟩
    case round =>
      obtain ⟨k, hk, rfl, heq, m, rfl⟩ := hrel
      by_cases hlt : k < n
      · have hkf : k < f.length := by rw [← Hxn.out]; exact hlt
        have hkg : k < g.length := by rw [← Hyn.out]; exact hlt
        obtain ⟨ba, oa, rfl, hba, p0⟩ := GS.cells HVa.out hkf
        obtain ⟨bb, ob, rfl, hbb, q0⟩ := GS.cells HVb.out hkg
        obtain ⟨Y, hY⟩ : ∃ Y, Y = snth f k := ⟨_, rfl⟩
        obtain ⟨Z, hZ⟩ : ∃ Z, Z = snth g k := ⟨_, rfl⟩
        rw [← hY] at p0
        rw [← hZ] at q0
        have HY := Lib.hid hY
        have HZ := Lib.hid hZ
        clear hY hZ
        by_cases e : Y = Z
        · have HN2 : Hid (f.take (k + 1) = g.take (k + 1)) := Lib.hid (by rw [take_snth f k hkf, take_snth g k hkg, heq.out, ← HY.out, ← HZ.out, e])
          have hN : (Y.toList == Z.toList) = true := by rw [beq_txt]; exact decide_eq_true e
          clear e
          go_wp2_with fail
          go_quiet (fail)
          go_wp2_with fail
          go_roundw
          case rel => exact ⟨k + 1, by omega, by go_num, HN2, _, rfl⟩
          case measure => simp [intOf]; omega
        · have HF2 : Hid (decide (f = g) = false) := Lib.hid (decide_eq_false fun h => e (by rw [HY.out, HZ.out, h]))
          have hN : (Y.toList == Z.toList) = false := by rw [beq_txt]; exact decide_eq_false e
          clear e
          go_wp2_with fail
          go_quiet (fail)
          go_wp2_with fail
          go_ret
          rw [HF2.out]
          exact ⟨rfl, _, World.drewN_drewN _ _ _⟩
      · obtain rfl : k = n := by omega
        have HE : Hid (decide (f = g) = true) := Lib.hid (by
          have h := heq.out
          rw [List.take_of_length_le (by rw [Hxn.out]; exact Nat.le_refl _), List.take_of_length_le (by rw [Hyn.out]; exact Nat.le_refl _)] at h
          exact decide_eq_true h)
        go_wp2_with fail
        go_ret
        exact ⟨by rw [HE.out]; rfl, _, rfl⟩
  · have hne : decide (f = g) = false := decide_eq_false fun e => hl (by rw [e])
    rw [hne]
    have h1 : ((f.length : Int) != (g.length : Int)) = true := by simp; omega
    clear hne hl
    go_enter Try.func60, Try.ntmps60
    go_wp2_with fail
    go_ret
    exact ⟨rfl, 0, rfl⟩
set_option maxRecDepth 100000 in
set_option maxHeartbeats 1600000 in
theorem l00Same_q {lo hi lo2 hi2 : Nat} (va vb : Value) (f g : List Int) (w : World) (hn : f.length ≤ 1048576) (ha : GI w lo hi va f) (hb : GI w lo2 hi2 vb g) :
    Calls Try.prog 67 #[va, vb] w fun e w' => e = .returned (.bool (decide (f = g))) ∧ ∃ m, w' = w.drewN m := by
  have HVa := Lib.hid ha
  have HVb := Lib.hid hb
  obtain ⟨a, capa, rfl, hcapa, hma⟩ := Rws.slice ha
  obtain ⟨b, capb, rfl, hcapb, hmb⟩ := Rws.slice hb
  unfold maxLen at hma hmb
  clear ha hb
  by_cases hl : f.length = g.length
  · obtain ⟨n, hxn⟩ : ∃ n, n = f.length := ⟨_, rfl⟩
    rw [← hxn] at hl
    rw [← hl] at hcapb HVb ⊢
    rw [← hxn] at hcapa HVa hn ⊢
    have Hxn := Lib.hid hxn; clear hxn
    have Hyn := Lib.hid hl; clear hl
    go_enter Try.func67, Try.ntmps67
    go_wp2_with fail
    go_loopw [5] (fun si wr => ∃ k : Nat, k ≤ n ∧ si = .int .i64 k ∧ Hid (f.take k = g.take k) ∧ ∃ m, wr = w.drewN m) (fun si _ => n - (intOf si).toNat)
    case atStart => exact ⟨0, Nat.zero_le _, rfl, Lib.hid rfl, 0, rfl⟩
    case round =>
      obtain ⟨k, hk, rfl, heq, m, rfl⟩ := hrel
      by_cases hlt : k < n
      · have hkf : k < f.length := by rw [← Hxn.out]; exact hlt
        have hkg : k < g.length := by rw [← Hyn.out]; exact hlt
        obtain ⟨ba, oa, rfl, hba, p0⟩ := GI.cells HVa.out hkf
        obtain ⟨bb, ob, rfl, hbb, q0⟩ := GI.cells HVb.out hkg
        obtain ⟨Y, hY⟩ : ∃ Y, Y = nth f k := ⟨_, rfl⟩
        obtain ⟨Z, hZ⟩ : ∃ Z, Z = nth g k := ⟨_, rfl⟩
        rw [← hY] at p0
        rw [← hZ] at q0
        have HY := Lib.hid hY
        have HZ := Lib.hid hZ
        clear hY hZ
        by_cases e : Y = Z
        · have HN2 : Hid (f.take (k + 1) = g.take (k + 1)) := Lib.hid (by rw [take_nth f k hkf, take_nth g k hkg, heq.out, ← HY.out, ← HZ.out, e])
          have hN : (Y != Z) = false := by simpa using e
          clear e
          go_wp2_with fail
          go_quiet (fail)
          go_wp2_with fail
          go_roundw
          case rel => exact ⟨k + 1, by omega, by go_num, HN2, _, rfl⟩
          case measure => simp [intOf]; omega
        · have HF2 : Hid (decide (f = g) = false) := Lib.hid (decide_eq_false fun h => e (by rw [HY.out, HZ.out, h]))
          have hN : (Y != Z) = true := by simpa using e
          clear e
          go_wp2_with fail
          go_quiet (fail)
          go_wp2_with fail
          go_ret
          rw [HF2.out]
          exact ⟨rfl, _, World.drewN_drewN _ _ _⟩
      · obtain rfl : k = n := by omega
        have HE : Hid (decide (f = g) = true) := Lib.hid (by
          have h := heq.out
          rw [List.take_of_length_le (by rw [Hxn.out]; exact Nat.le_refl _), List.take_of_length_le (by rw [Hyn.out]; exact Nat.le_refl _)] at h
          exact decide_eq_true h)
        go_wp2_with fail
        go_ret
        exact ⟨by rw [HE.out]; rfl, _, rfl⟩
  · have hne : decide (f = g) = false := decide_eq_false fun e => hl (by rw [e])
    rw [hne]
    have h1 : ((f.length : Int) != (g.length : Int)) = true := by simp; omega
    clear hne hl
    go_enter Try.func67, Try.ntmps67
    go_wp2_with fail
    go_ret
    exact ⟨rfl, 0, rfl⟩
set_option maxRecDepth 100000 in
set_option maxHeartbeats 1600000 in
theorem l03Same_q {lo hi lo2 hi2 : Nat} (va vb : Value) (f g : List Tm) (w : World) (hn : f.length ≤ 1048576) (ha : GTm w lo hi va f) (hb : GTm w lo2 hi2 vb g) :
    Calls Try.prog 78 #[va, vb] w fun e w' => e = .returned (.bool (decide (f = g))) ∧ ∃ m, w' = w.drewN m := by
  have HVa := Lib.hid ha
  have HVb := Lib.hid hb
  obtain ⟨a, capa, rfl, hcapa, hma⟩ := Rws.slice ha
  obtain ⟨b, capb, rfl, hcapb, hmb⟩ := Rws.slice hb
  unfold maxLen at hma hmb
  clear ha hb
  by_cases hl : f.length = g.length
  · obtain ⟨n, hxn⟩ : ∃ n, n = f.length := ⟨_, rfl⟩
    rw [← hxn] at hl
    rw [← hl] at hcapb HVb ⊢
    rw [← hxn] at hcapa HVa hn ⊢
    have Hxn := Lib.hid hxn; clear hxn
    have Hyn := Lib.hid hl; clear hl
    go_enter Try.func78, Try.ntmps78
    go_wp2_with fail
    go_loopw [5] (fun si wr => ∃ k : Nat, k ≤ n ∧ si = .int .i64 k ∧ Hid (f.take k = g.take k) ∧ ∃ m, wr = w.drewN m) (fun si _ => n - (intOf si).toNat)
    case atStart => exact ⟨0, Nat.zero_le _, rfl, Lib.hid rfl, 0, rfl⟩
    case round =>
      obtain ⟨k, hk, rfl, heq, m, rfl⟩ := hrel
      by_cases hlt : k < n
      · have hkf : k < f.length := by rw [← Hxn.out]; exact hlt
        have hkg : k < g.length := by rw [← Hyn.out]; exact hlt
        obtain ⟨ba, oa, rfl, hba, p0, p1⟩ := GTm.cells HVa.out hkf
        obtain ⟨bb, ob, rfl, hbb, q0, q1⟩ := GTm.cells HVb.out hkg
        obtain ⟨Y, hY⟩ : ∃ Y, Y = gnth tm0 f k := ⟨_, rfl⟩
        obtain ⟨Z, hZ⟩ : ∃ Z, Z = gnth tm0 g k := ⟨_, rfl⟩
        rw [← hY] at p0 p1
        rw [← hZ] at q0 q1
        have HY := Lib.hid hY
        have HZ := Lib.hid hZ
        clear hY hZ
        by_cases e : Y = Z
        · have HN2 : Hid (f.take (k + 1) = g.take (k + 1)) := Lib.hid (by rw [take_gnth tm0 f k hkf, take_gnth tm0 g k hkg, heq.out, ← HY.out, ← HZ.out, e])
          have hN : ∀ W, (binOp .neq 130 (.agg #[.int .i64 Y.kind, .int .i64 Y.num]) (.agg #[.int .i64 Z.kind, .int .i64 Z.num])).run Try.prog W = .ok (.bool false) W := fun W => by rw [neqTm_run, decide_eq_true e]; rfl
          clear e
          go_wp2_with fail
          go_quiet (fail)
          go_wp2_with fail
          go_roundw
          case rel => exact ⟨k + 1, by omega, by go_num, HN2, _, rfl⟩
          case measure => simp [intOf]; omega
        · have HF2 : Hid (decide (f = g) = false) := Lib.hid (decide_eq_false fun h => e (by rw [HY.out, HZ.out, h]))
          have hN : ∀ W, (binOp .neq 130 (.agg #[.int .i64 Y.kind, .int .i64 Y.num]) (.agg #[.int .i64 Z.kind, .int .i64 Z.num])).run Try.prog W = .ok (.bool true) W := fun W => by rw [neqTm_run, decide_eq_false e]; rfl
          clear e
          go_wp2_with fail
          go_quiet (fail)
          go_wp2_with fail
          go_ret
          rw [HF2.out]
          exact ⟨rfl, _, World.drewN_drewN _ _ _⟩
      · obtain rfl : k = n := by omega
        have HE : Hid (decide (f = g) = true) := Lib.hid (by
          have h := heq.out
          rw [List.take_of_length_le (by rw [Hxn.out]; exact Nat.le_refl _), List.take_of_length_le (by rw [Hyn.out]; exact Nat.le_refl _)] at h
          exact decide_eq_true h)
        go_wp2_with fail
        go_ret
        exact ⟨by rw [HE.out]; rfl, _, rfl⟩
  · have hne : decide (f = g) = false := decide_eq_false fun e => hl (by rw [e])
    rw [hne]
    have h1 : ((f.length : Int) != (g.length : Int)) = true := by simp; omega
    clear hne hl
    go_enter Try.func78, Try.ntmps78
    go_wp2_with fail
    go_ret
    exact ⟨rfl, 0, rfl⟩
end Go.Proofs.Ytdlldgenkmngiaa
