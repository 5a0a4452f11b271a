/- Contracts: AlternationDepth itself, of the program and of the reference. -/
import Derived.Test.YtmaadfoiaegdjaaGreatDoorProg
import Derived.Test.YtmaadfoiaegdjaaGreatDoorMem
import Derived.Test.YtmaadfoiaegdjaaGreatDoorMath
import Derived.Test.YtmaadfoiaegdjaaGreatDoorBasics
import Derived.Test.YtmaadfoiaegdjaaGreatDoorOpenI
import Derived.Test.YtmaadfoiaegdjaaGreatDoorHelpI
import Derived.Test.YtmaadfoiaegdjaaGreatDoorGrid
import Derived.Test.YtmaadfoiaegdjaaGreatDoorLab
import Derived.Test.YtmaadfoiaegdjaaGreatDoorDec
import Derived.Test.YtmaadfoiaegdjaaGreatDoorEnv
import Derived.Test.YtmaadfoiaegdjaaGreatDoorNode
import Derived.Test.YtmaadfoiaegdjaaGreatDoorNodeW
import Derived.Test.YtmaadfoiaegdjaaGreatDoorVMod
import Derived.Test.YtmaadfoiaegdjaaGreatDoorEnd
import Derived.Test.YtmaadfoiaegdjaaGreatDoorBind
import Derived.Test.YtmaadfoiaegdjaaGreatDoorVFor
import Derived.Test.YtmaadfoiaegdjaaGreatDoorConc
import Derived.Test.YtmaadfoiaegdjaaGreatDoorNds
import Derived.Test.YtmaadfoiaegdjaaGreatDoorFreq
import Derived.Test.YtmaadfoiaegdjaaGreatDoorInst
import Derived.Test.YtmaadfoiaegdjaaGreatDoorUnf
import Derived.Test.YtmaadfoiaegdjaaGreatDoorUses
import Derived.Test.YtmaadfoiaegdjaaGreatDoorAlt
import Derived.WalkKit
import Derived.BigRegion
import Derived.Deep.RegionHeld3
import Derived.StillTailTactics
import Derived.Deep.QuietTactic
import Derived.BigQuiet
import Derived.Maps.AppendAt
import Derived.Laws.OwnMore
import Derived.Lib.Hide
import Derived.Outline
set_option linter.unusedVariables false
set_option linter.unusedSimpArgs false
namespace Go.Proofs.YtmaadfoiaegdjaaGreatDoor
open Go.RowKit

set_option maxRecDepth 100000 in
set_option maxHeartbeats 4000000 in
theorem AlternationDepth_any (v : Value) (f : List Nd) (w : World) (hn : f.length ≤ 1048576) (hls : ∀ i, i < f.length → (ndnth f i).lab.size ≤ 1048576) (hT : Env w) (hv : RdNd w v f) :
    Calls Tryz.prog 44 #[v] w fun e w' => e = .returned (.tuple #[.int .i64 (adE f : Nat), .int .i64 (adC f)]) ∧ Below w.heap.size w w' := by
  have HV := Lib.hid hv
  have HT := Lib.hid hT
  clear hT
  obtain ⟨a, cap, rfl, hcap, hcm, _⟩ := hv
  unfold maxLen at hcm
  obtain ⟨n, hxn⟩ : ∃ n, n = f.length := ⟨_, rfl⟩
  rw [← hxn] at hcap HV ⊢
  have Hxn := Lib.hid hxn
  cases hvm : validF f with
  | false =>
    have hM : Hid (adE f = 0) := Lib.hid (by unfold adE; rw [hvm]; rfl)
    have hC : Hid (adC f = 1) := Lib.hid (by unfold adC; rw [hvm]; rfl)
    rw [hM.out, hC.out]
    clear hxn
    go_enter Tryz.func44, Tryz.ntmps44
    go_wp2_with fail
    refine (ValidFormula_any _ f _ hn hls HT.out HV.out).mono ?_
    rw [hvm]
    rintro e w1 ⟨rfl, hb1⟩
    go_wp2_with fail
    go_ret2
    exact ⟨rfl, hb1⟩
  | true =>
  obtain ⟨hp1, hp2, hp3, hp4⟩ := validF_parts hvm
  have HS := Lib.hid hp3
  have HK := Lib.hid hp4
  have hM : Hid (adE f = adTo f n) := Lib.hid (by unfold adE; rw [hvm, if_pos rfl, hxn])
  have hC : Hid (adC f = 0) := Lib.hid (by unfold adC; rw [hvm]; rfl)
  have HLe : Hid (∀ k, adTo f k ≤ 1048576) := Lib.hid fun k => Nat.le_trans (adTo_le f k) hn
  have hn30 : n ≤ 30 := by omega
  clear hxn hp1 hp2 hp3 hp4
  go_enter Tryz.func44, Tryz.ntmps44
  go_wp2_with fail
  refine (ValidFormula_any _ f _ hn hls HT.out HV.out).mono ?_
  rw [hvm]
  rintro e w1 ⟨rfl, hb1⟩
  go_wp2_with fail
  go_loopw [4, 12] (fun so si wr => ∃ k : Nat, k ≤ n ∧ si = .int .i64 k ∧ so = .int .i64 ((adTo f k : Nat) : Int) ∧ Below w.heap.size w wr) (fun _ si _ => n - (intOf si).toNat)
  case atStart => exact ⟨0, Nat.zero_le _, rfl, rfl, hb1⟩
  case round =>
    clear hb1
    obtain ⟨k, hk, rfl, rfl, hbl⟩ := hrel
    have hMl := HLe.out k
    have HA : Hid (adTo f (k + 1) = if isFix (ndnth f k).kind = true then max (adTo f k) (altF f f.length k) else adTo f k) := Lib.hid rfl
    obtain ⟨M, hMe⟩ : ∃ M, M = adTo f k := ⟨_, rfl⟩
    rw [← hMe] at HA hMl ⊢
    have HM := Lib.hid hMe
    clear hMe
    by_cases hlt : k < n
    · have hkf : k < f.length := by rw [← Hxn.out]; exact hlt
      obtain ⟨b, o, rfl, hb, g0, g1, g2, g3⟩ := RdNd.cells HV.out hkf
      have q0 := (hbl.cell (by exact hb)).trans g0
      have q1 := (hbl.cell (by exact hb)).trans g1
      have q2 := (hbl.cell (by exact hb)).trans g2
      have q3 := (hbl.cell (by exact hb)).trans g3
      have hXl := altF_le f f.length k
      obtain ⟨Y, hY⟩ : ∃ Y, Y = ndnth f k := ⟨_, rfl⟩
      obtain ⟨X, hX⟩ : ∃ X, X = altF f f.length k := ⟨_, rfl⟩
      rw [← hY] at q0 q1 q2 q3 HA
      rw [← hX] at HA hXl
      have HX := Lib.hid hX
      clear hY hX g0 g1 g2 g3
      obtain ⟨cs, hcs⟩ : ∃ cs : Array Value, cs = #[.int .i64 Y.kind, .int .i64 Y.var, .string Y.lab, .bool Y.neg] := ⟨_, rfl⟩
      have hbA : Below wr.heap.size wr (wr.alloc (.cells cs 49)) := (Below.refl _ _).alloc (Nat.le_refl _) _
      rw [hcs] at hbA
      clear hcs
      have hblA := below_trans' hbl hbA
      clear hbA
      cases hfx : isFix Y.kind with
      | false =>
        have HA2 : Hid (adTo f (k + 1) = M) := Lib.hid (by rw [HA.out, if_neg (by rw [hfx]; simp)])
        go_wp2_with fail
        refine (isFixed_any Y.kind _ _ _ _).mono ?_
        rw [hfx]
        rintro e w2 ⟨rfl, hb2⟩
        have hbl2 := below_trans' hblA hb2
        go_wp2_with fail
        go_roundw
        case rel => exact ⟨k + 1, by omega, by go_num, by rw [HA2.out], hbl2⟩
        case measure => simp [intOf] <;> omega
      | true =>
        have HA2 : Hid (adTo f (k + 1) = max M X) := Lib.hid (by rw [HA.out, if_pos hfx])
        go_wp2_with fail
        refine (isFixed_any Y.kind _ _ _ _).mono ?_
        rw [hfx]
        rintro e w2 ⟨rfl, hb2⟩
        have hbl2 := below_trans' hblA hb2
        go_wp2_with fail
        refine (alternation_aux _ f hn HS.out HK.out f.length k _ hn (Nat.sub_le _ _) hkf (HV.out.below hbl2)).mono ?_
        rw [← HX.out]
        rintro e w3 ⟨rfl, hb3⟩
        have hbl3 := below_trans' hbl2 hb3
        go_wp2_with fail
        go_roundw
        case rel => exact ⟨k + 1, by omega, by go_num, by rw [HA2.out] <;> go_num, hbl3⟩
        case measure => simp [intOf] <;> omega
    · obtain rfl : k = n := by omega
      go_wp2_with fail
      go_ret2
      rw [hM.out, hC.out, ← HM.out]
      exact ⟨rfl, hbl⟩
set_option maxRecDepth 100000 in
set_option maxHeartbeats 4000000 in
theorem spec_AlternationDepth_any (v : Value) (f : List Nd) (w : World) (hn : f.length ≤ 1048576) (hls : ∀ i, i < f.length → (ndnth f i).lab.size ≤ 1048576) (hv : RdNd w v f) :
    Calls Tryz.prog 43 #[v] w fun e w' => e = .returned (.tuple #[.int .i64 (adE f : Nat), .int .i64 (adC f)]) ∧ Below w.heap.size w w' := by
  have HV := Lib.hid hv
  obtain ⟨a, cap, rfl, hcap, hcm, _⟩ := hv
  unfold maxLen at hcm
  obtain ⟨n, hxn⟩ : ∃ n, n = f.length := ⟨_, rfl⟩
  rw [← hxn] at hcap HV ⊢
  have Hxn := Lib.hid hxn
  cases hvm : validF f with
  | false =>
    have hM : Hid (adE f = 0) := Lib.hid (by unfold adE; rw [hvm]; rfl)
    have hC : Hid (adC f = 1) := Lib.hid (by unfold adC; rw [hvm]; rfl)
    rw [hM.out, hC.out]
    clear hxn
    go_enter Tryz.func43, Tryz.ntmps43
    go_wp2_with fail
    refine (l19Is_any _ f _ hn hls HV.out).mono ?_
    rw [hvm]
    rintro e w1 ⟨rfl, hb1⟩
    go_wp2_with fail
    go_ret2
    exact ⟨rfl, hb1⟩
  | true =>
  obtain ⟨hp1, hp2, hp3, hp4⟩ := validF_parts hvm
  have HS := Lib.hid hp3
  have HK := Lib.hid hp4
  have hM : Hid (adE f = adTo f n) := Lib.hid (by unfold adE; rw [hvm, if_pos rfl, hxn])
  have hC : Hid (adC f = 0) := Lib.hid (by unfold adC; rw [hvm]; rfl)
  have HLe : Hid (∀ k, adTo f k ≤ 1048576) := Lib.hid fun k => Nat.le_trans (adTo_le f k) hn
  have hn30 : n ≤ 30 := by omega
  clear hxn hp1 hp2 hp3 hp4
  go_enter Tryz.func43, Tryz.ntmps43
  go_wp2_with fail
  refine (l19Is_any _ f _ hn hls HV.out).mono ?_
  rw [hvm]
  rintro e w1 ⟨rfl, hb1⟩
  go_wp2_with fail
  go_loopw [4, 5] (fun so si wr => ∃ k : Nat, k ≤ n ∧ si = .int .i64 k ∧ so = .int .i64 ((adTo f k : Nat) : Int) ∧ Below w.heap.size w wr) (fun _ si _ => n - (intOf si).toNat)
  case atStart => exact ⟨0, Nat.zero_le _, rfl, rfl, hb1⟩
  case round =>
    clear hb1
    obtain ⟨k, hk, rfl, rfl, hbl⟩ := hrel
    have hMl := HLe.out k
    have HA : Hid (adTo f (k + 1) = if isFix (ndnth f k).kind = true then max (adTo f k) (altF f f.length k) else adTo f k) := Lib.hid rfl
    obtain ⟨M, hMe⟩ : ∃ M, M = adTo f k := ⟨_, rfl⟩
    rw [← hMe] at HA hMl ⊢
    have HM := Lib.hid hMe
    clear hMe
    by_cases hlt : k < n
    · have hkf : k < f.length := by rw [← Hxn.out]; exact hlt
      obtain ⟨b, o, rfl, hb, g0, g1, g2, g3⟩ := RdNd.cells HV.out hkf
      have q0 := (hbl.cell (by exact hb)).trans g0
      have q1 := (hbl.cell (by exact hb)).trans g1
      have q2 := (hbl.cell (by exact hb)).trans g2
      have q3 := (hbl.cell (by exact hb)).trans g3
      have hXl := altF_le f f.length k
      obtain ⟨Y, hY⟩ : ∃ Y, Y = ndnth f k := ⟨_, rfl⟩
      obtain ⟨X, hX⟩ : ∃ X, X = altF f f.length k := ⟨_, rfl⟩
      rw [← hY] at q0 q1 q2 q3 HA
      rw [← hX] at HA hXl
      have HX := Lib.hid hX
      clear hY hX g0 g1 g2 g3
      cases hfx : isFix Y.kind with
      | false =>
        have HA2 : Hid (adTo f (k + 1) = M) := Lib.hid (by rw [HA.out, if_neg (by rw [hfx]; simp)])
        go_wp2_with fail
        refine (l19Fixed_any _ _ Y.kind _ q0).mono ?_
        rw [hfx]
        rintro e w2 ⟨rfl, rfl⟩
        have hbl2 := hbl
        go_wp2_with fail
        go_roundw
        case rel => exact ⟨k + 1, by omega, by go_num, by rw [HA2.out], hbl2⟩
        case measure => simp [intOf] <;> omega
      | true =>
        have HA2 : Hid (adTo f (k + 1) = max M X) := Lib.hid (by rw [HA.out, if_pos hfx])
        go_wp2_with fail
        refine (l19Fixed_any _ _ Y.kind _ q0).mono ?_
        rw [hfx]
        rintro e w2 ⟨rfl, rfl⟩
        have hbl2 := hbl
        go_wp2_with fail
        refine (l19Chain_aux _ f hn HS.out HK.out f.length k _ hn (Nat.sub_le _ _) hkf (HV.out.below hbl2)).mono ?_
        rw [← HX.out]
        rintro e w3 ⟨rfl, hb3⟩
        have hbl3 := below_trans' hbl2 hb3
        go_wp2_with fail
        refine (l00MaxA_any M X _).mono ?_
        rintro e w4 ⟨rfl, rfl⟩
        go_wp2_with fail
        go_roundw
        case rel => exact ⟨k + 1, by omega, by go_num, by rw [HA2.out] <;> go_num, hbl3⟩
        case measure => simp [intOf] <;> omega
    · obtain rfl : k = n := by omega
      go_wp2_with fail
      go_ret2
      rw [hM.out, hC.out, ← HM.out]
      exact ⟨rfl, hbl⟩
end Go.Proofs.YtmaadfoiaegdjaaGreatDoor
