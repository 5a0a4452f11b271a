/- Systems held against each other, by the reference. -/
import Derived.Test.YtdlldgenkmngiaaProg
import Derived.Test.YtdlldgenkmngiaaMem
import Derived.Test.YtdlldgenkmngiaaMath
import Derived.Test.YtdlldgenkmngiaaBasics
import Derived.Test.YtdlldgenkmngiaaOpenI
import Derived.Test.YtdlldgenkmngiaaHelpI
import Derived.Test.YtdlldgenkmngiaaGrid
import Derived.Test.YtdlldgenkmngiaaRows2
import Derived.Test.YtdlldgenkmngiaaSt
import Derived.Test.YtdlldgenkmngiaaStCmp
import Derived.Laws.StructEq
import Derived.WalkKit
import Derived.BigQuiet
import Derived.BigRegion
import Derived.StillTailTactics
import Derived.Deep.QuietTactic
import Derived.Laws.ResultCell
import Derived.Laws.OwnMore
import Derived.Lib.Hide
import Derived.Outline
set_option linter.unusedVariables false
set_option linter.unusedSimpArgs false
namespace Go.Proofs.Ytdlldgenkmngiaa
open Go.RowKit
theorem quiet_eq {P : Program} {f : FuncId} {args : Array Value} {w : World} {b b' : Bool} (h : Calls P f args w fun e w' => e = .returned (.bool b) ∧ ∃ m, w' = w.drewN m) (hb : b = b') : Calls P f args w fun e w' => e = .returned (.bool b') ∧ ∃ m, w' = w.drewN m := hb ▸ h
theorem drewN_keep (lo hi : Nat) (w : World) (m : Nat) : Keep lo hi w (w.drewN m) := ⟨Nat.le_refl _, fun _ _ _ _ => rfl⟩
set_option maxRecDepth 100000 in
set_option maxHeartbeats 4000000 in
theorem l05SameParts_q {lo hi lo2 hi2 : Nat} (va vb : Value) (f g : List Pt) (w : World) (hn : totPt f ≤ 1048576) (ha : GPt w lo hi va f) (hb : GPt w lo2 hi2 vb g) :
    Calls Try.prog 66 #[va, vb] w fun e w' => e = .returned (.bool (decide (f = g))) ∧ ∃ m, w' = w.drewN m := by
  have HVa := Lib.hid ha
  have HVb := Lib.hid hb
  obtain ⟨a, capa, rfl, hcapa, hma⟩ := Rws.slice ha
  obtain ⟨b, capb, rfl, hcapb, hmb⟩ := Rws.slice hb
  unfold maxLen at hma hmb
  clear ha hb
  unfold totPt at hn
  have hln : f.length ≤ 1048576 := by omega
  have Hwt : Hid (∀ i, i < f.length → wtPt (gnth pt0 f i) ≤ 1048576) := Lib.hid (fun i hi => by
    have h : wtPt (gnth pt0 f i) ≤ _ := sumTo_le (fun i => wtPt (gnth pt0 f i)) hi
    omega)
  clear hn
  by_cases hl : f.length = g.length
  · obtain ⟨n, hxn⟩ : ∃ n, n = f.length := ⟨_, rfl⟩
    rw [← hxn] at hl
    rw [← hl] at hcapb HVb ⊢
    rw [← hxn] at hcapa HVa hln ⊢
    have Hxn := Lib.hid hxn; clear hxn
    have Hyn := Lib.hid hl; clear hl
    go_enter Try.func66, Try.ntmps66
    go_wp2_with fail
    go_loopw [5] (fun si wr => ∃ k : Nat, k ≤ n ∧ si = .int .i64 k ∧ Hid (f.take k = g.take k) ∧ ∃ m, wr = w.drewN m) (fun si _ => n - (intOf si).toNat)
    case atStart => exact ⟨0, Nat.zero_le _, rfl, Lib.hid rfl, 0, rfl⟩
    case round =>
      obtain ⟨k, hk, rfl, heq, mm, rfl⟩ := hrel
      by_cases hlt : k < n
      · have hkf : k < f.length := by rw [← Hxn.out]; exact hlt
        have hkg : k < g.length := by rw [← Hyn.out]; exact hlt
        obtain ⟨ba, oa, rfl, hba, p0, p1, p2, pa3, pc3, p3, pG3⟩ := GPt.cells HVa.out hkf
        obtain ⟨bb, ob, rfl, hbb, q0, q1, q2, qa3, qc3, q3, qG3⟩ := GPt.cells HVb.out hkg
        obtain ⟨Y, hY⟩ : ∃ Y, Y = gnth pt0 f k := ⟨_, rfl⟩
        obtain ⟨Z, hZ⟩ : ∃ Z, Z = gnth pt0 g k := ⟨_, rfl⟩
        have hwk := Hwt.out k hkf
        rw [← hY] at hwk p0 p1 p2 p3 pG3
        rw [← hZ] at q0 q1 q2 q3 qG3
        have HpG := Lib.hid pG3
        have HqG := Lib.hid qG3
        have HY := Lib.hid hY
        have HZ := Lib.hid hZ
        clear hY hZ pG3 qG3
        have hlt' : ∀ x y : ByteArray, (x.toList == y.toList) = decide (x = y) := beq_txt
        have HF : Hid (Y ≠ Z → decide (f = g) = false) := Lib.hid (fun e => decide_eq_false fun h => e (by rw [HY.out, HZ.out, h]))
        have hyl : Y.args.length ≤ 1048576 := by unfold wtPt totTmS at hwk; omega
        have Hwk2 : Hid (∀ j, j < Y.args.length → totTm (gnth tms0 Y.args j) ≤ 1048576) := Lib.hid (fun j hj => by
          have h : totTm (gnth tms0 Y.args j) ≤ _ := sumTo_le (fun i => totTm (gnth tms0 Y.args i)) hj
          unfold wtPt totTmS at hwk; omega)
        clear hwk
        by_cases c0 : Y.kind = Z.kind
        · by_cases c1 : Y.num = Z.num
          · by_cases c2 : Y.name = Z.name
            · by_cases c3 : Y.args.length = Z.args.length
              · have n0 : (Y.kind != Z.kind) = false := by simpa using c0
                have n1 : (Y.num != Z.num) = false := by simpa using c1
                rw [← c2] at q2
                have HA : Hid (Y.args = Z.args → Y = Z) := Lib.hid (fun h => by
                  cases Y
                  cases Z
                  simp only at c0 c1 c2 h
                  rw [c0, c1, c2, h])
                rw [← c3] at q3 HqG
                obtain ⟨M, hM⟩ : ∃ M, M = Y.args.length := ⟨_, rfl⟩
                rw [← hM] at p3 q3 HpG HqG hyl c3
                have HM := Lib.hid hM
                have HM2 := Lib.hid c3
                clear c0 c1 c2 c3 hM
                go_wp2_with fail
                go_quiet (fail)
                obtain ⟨wo, hwo⟩ : ∃ wo : World, wo = (w.drewN mm).drewN nq := ⟨_, rfl⟩
                rw [World.drewN_drewN] at hwo
                have hw2 : (w.drewN mm).drewN nq = w.drewN (mm + nq) := World.drewN_drewN _ _ _
                go_wp2_with fail
                rw [hw2]
                go_loopw [6] (fun sj wi => ∃ j : Nat, j ≤ M ∧ sj = .int .i64 j ∧ Hid (Y.args.take j = Z.args.take j) ∧ Hid (∃ m, wi = w.drewN m)) (fun sj _ => M - (intOf sj).toNat)
                case atStart => exact ⟨0, Nat.zero_le _, rfl, Lib.hid rfl, Lib.hid ⟨_, rfl⟩⟩
                case round =>
                  obtain ⟨j, hj, rfl, hjq, hmi⟩ := hrel
                  have hbi : Below w.heap.size w wr := by obtain ⟨m, e⟩ := hmi.out; rw [e]; exact ⟨rfl, rfl, rfl, Nat.le_refl _, fun _ _ => rfl⟩
                  have P3 := (hbi.cell (by exact hba)).trans p3
                  have Q3 := (hbi.cell (by exact hbb)).trans q3
                  by_cases hjl : j < M
                  · have hjy : j < Y.args.length := by rw [← HM.out]; exact hjl
                    have hjz : j < Z.args.length := by rw [← HM2.out]; exact hjl
                    obtain ⟨b3, o3, rfl, hb3, ra, rc, r0, rG⟩ := GTmS.cells HpG.out hjy
                    obtain ⟨b4, o4, rfl, hb4, sa, sc, s0, sG⟩ := GTmS.cells HqG.out hjz
                    obtain ⟨y, hy⟩ : ∃ y, y = gnth tms0 Y.args j := ⟨_, rfl⟩
                    obtain ⟨z, hz⟩ : ∃ z, z = gnth tms0 Z.args j := ⟨_, rfl⟩
                    have hwj := Hwk2.out j hjy
                    unfold totTm at hwj
                    rw [← hy] at r0 rG hwj
                    rw [← hz] at s0 sG
                    replace r0 := (hbi.cell (by exact hb3)).trans r0
                    replace s0 := (hbi.cell (by exact hb4)).trans s0
                    have Hy := Lib.hid hy
                    have Hz := Lib.hid hz
                    have hyy : y.length ≤ 1048576 := by omega
                    by_cases e : y = z
                    · have hc := fun q => quiet_eq (l03Same_q _ _ y z (wr.drewN q) hyy ((rG.keep (Keep.of_below _ _ hbi)).keep (drewN_keep _ _ _ _)) ((sG.keep (Keep.of_below _ _ hbi)).keep (drewN_keep _ _ _ _))) (decide_eq_true e)
                      have Hc := Lib.hid hc; clear hc
                      have HN2 : Hid (Y.args.take (j + 1) = Z.args.take (j + 1)) := Lib.hid (by rw [take_gnth tms0 _ j hjy, take_gnth tms0 _ j hjz, hjq.out, ← Hy.out, ← Hz.out, e])
                      clear e rG sG hy hz hwj
                      go_wp2_with fail
                      go_quiet ((go_at_call 78; exact Calls.quiet_of (Hc.out _)))
                      go_wp2_with fail
                      go_roundw
                      case rel => exact ⟨j + 1, by omega, by go_num, HN2, Lib.hid (by obtain ⟨m, e⟩ := hmi.out; exact ⟨m + nq, by rw [e]; exact World.drewN_drewN _ _ _⟩)⟩
                      case measure => simp [intOf]; omega
                    · have hc := fun q => quiet_eq (l03Same_q _ _ y z (wr.drewN q) hyy ((rG.keep (Keep.of_below _ _ hbi)).keep (drewN_keep _ _ _ _)) ((sG.keep (Keep.of_below _ _ hbi)).keep (drewN_keep _ _ _ _))) (decide_eq_false e)
                      have Hc := Lib.hid hc; clear hc
                      have HF2 := Lib.hid (HF.out fun h => e (by rw [Hy.out, Hz.out, h]))
                      clear e rG sG hy hz hwj
                      go_wp2_with fail
                      go_quiet ((go_at_call 78; exact Calls.quiet_of (Hc.out _)))
                      go_wp2_with fail
                      go_ret
                      rw [HF2.out]
                      exact ⟨rfl, by obtain ⟨m, e⟩ := hmi.out; exact ⟨m + nq, by rw [e]; exact World.drewN_drewN _ _ _⟩⟩
                  · obtain rfl : j = M := by omega
                    have HN2 : Hid (f.take (k + 1) = g.take (k + 1)) := Lib.hid (by
                      have h := hjq.out
                      rw [List.take_of_length_le (by rw [HM.out]; exact Nat.le_refl _), List.take_of_length_le (by rw [HM2.out]; exact Nat.le_refl _)] at h
                      rw [take_gnth pt0 f k hkf, take_gnth pt0 g k hkg, heq.out, ← HY.out, ← HZ.out, HA.out h])
                    go_wp2_with fail
                    go_roundw
                    case rel => exact ⟨k + 1, by omega, by go_num, HN2, hmi.out⟩
                    case measure => simp [intOf]; omega
              · have HF2 := Lib.hid (HF.out fun h => c3 (by rw [h]))
                have n0 : (Y.kind != Z.kind) = false := by simpa using c0
                have n1 : (Y.num != Z.num) = false := by simpa using c1
                rw [← c2] at q2
                have n3 : ((Y.args.length : Int) != (Z.args.length : Int)) = true := by simp; omega
                clear HF hlt' c0 c1 c2 c3
                go_wp2_with fail
                go_quiet (fail)
                go_wp2_with fail
                go_ret
                rw [HF2.out]
                exact ⟨rfl, _, World.drewN_drewN _ _ _⟩
            · have HF2 := Lib.hid (HF.out fun h => c2 (by rw [h]))
              have n0 : (Y.kind != Z.kind) = false := by simpa using c0
              have n1 : (Y.num != Z.num) = false := by simpa using c1
              have n2 : (Y.name.toList == Z.name.toList) = false := by rw [hlt']; exact decide_eq_false c2
              clear HF hlt' c0 c1 c2
              go_wp2_with fail
              go_quiet (fail)
              go_wp2_with fail
              go_ret
              rw [HF2.out]
              exact ⟨rfl, _, World.drewN_drewN _ _ _⟩
          · have HF2 := Lib.hid (HF.out fun h => c1 (by rw [h]))
            have n0 : (Y.kind != Z.kind) = false := by simpa using c0
            have n1 : (Y.num != Z.num) = true := by simpa using c1
            clear HF hlt' c0 c1
            go_wp2_with fail
            go_quiet (fail)
            go_wp2_with fail
            go_ret
            rw [HF2.out]
            exact ⟨rfl, _, World.drewN_drewN _ _ _⟩
        · have HF2 := Lib.hid (HF.out fun h => c0 (by rw [h]))
          have n0 : (Y.kind != Z.kind) = true := by simpa using c0
          clear HF hlt' c0
          go_wp2_with fail
          go_quiet (fail)
          go_wp2_with fail
          go_ret
          rw [HF2.out]
          exact ⟨rfl, _, World.drewN_drewN _ _ _⟩
      · obtain rfl : k = n := by omega
        have HE : Hid (decide (f = g) = true) := Lib.hid (by
          have h := heq.out
          rw [List.take_of_length_le (by rw [Hxn.out]; exact Nat.le_refl _), List.take_of_length_le (by rw [Hyn.out]; exact Nat.le_refl _)] at h
          exact decide_eq_true h)
        go_wp2_with fail
        go_ret
        exact ⟨by rw [HE.out]; rfl, _, rfl⟩
  · have hne : decide (f = g) = false := decide_eq_false fun e => hl (by rw [e])
    rw [hne]
    have h1 : ((f.length : Int) != (g.length : Int)) = true := by simp; omega
    clear hne hl
    go_enter Try.func66, Try.ntmps66
    go_wp2_with fail
    go_ret
    exact ⟨rfl, 0, rfl⟩
end Go.Proofs.Ytdlldgenkmngiaa
