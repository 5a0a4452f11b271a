/- Contracts: UnfoldFormula, of the program and of the reference. -/
import Derived.Test.YtmaadfoiaegdjaaGreatDoorProg
import Derived.Test.YtmaadfoiaegdjaaGreatDoorMem
import Derived.Test.YtmaadfoiaegdjaaGreatDoorMath
import Derived.Test.YtmaadfoiaegdjaaGreatDoorBasics
import Derived.Test.YtmaadfoiaegdjaaGreatDoorOpenI
import Derived.Test.YtmaadfoiaegdjaaGreatDoorHelpI
import Derived.Test.YtmaadfoiaegdjaaGreatDoorGrid
import Derived.Test.YtmaadfoiaegdjaaGreatDoorLab
import Derived.Test.YtmaadfoiaegdjaaGreatDoorDec
import Derived.Test.YtmaadfoiaegdjaaGreatDoorEnv
import Derived.Test.YtmaadfoiaegdjaaGreatDoorNode
import Derived.Test.YtmaadfoiaegdjaaGreatDoorNodeW
import Derived.Test.YtmaadfoiaegdjaaGreatDoorVMod
import Derived.Test.YtmaadfoiaegdjaaGreatDoorEnd
import Derived.Test.YtmaadfoiaegdjaaGreatDoorBind
import Derived.Test.YtmaadfoiaegdjaaGreatDoorVFor
import Derived.Test.YtmaadfoiaegdjaaGreatDoorConc
import Derived.Test.YtmaadfoiaegdjaaGreatDoorNds
import Derived.Test.YtmaadfoiaegdjaaGreatDoorFreq
import Derived.Test.YtmaadfoiaegdjaaGreatDoorInst
import Derived.WalkKit
import Derived.BigQuiet
import Derived.Maps.AppendAt
import Derived.Laws.OwnMore
import Derived.Lib.Hide
import Derived.Outline
set_option linter.unusedVariables false
set_option linter.unusedSimpArgs false
namespace Go.Proofs.YtmaadfoiaegdjaaGreatDoor
open Go.RowKit

def unfC (f : List Nd) : Int := if validF f = true then (if isFix (ndnth f 0).kind = true then (if (putN f f).length ≤ 30 then 0 else 5) else 6) else 1
def unfO (f : List Nd) : List Nd := if unfC f = 0 then putN f f else []
theorem unfO_len (f : List Nd) : (unfO f).length ≤ 30 := by
  unfold unfO
  split
  · next h =>
    unfold unfC at h
    split at h
    · split at h
      · split at h
        · next h2 => exact h2
        · cases h
      · cases h
    · cases h
  · simp
theorem validF_parts {f : List Nd} (h : validF f = true) : 1 ≤ f.length ∧ f.length ≤ 30 ∧ shapeN f = true ∧ ∀ i, i < f.length → inR (ndnth f i).kind 0 8 = true := by
  unfold validF at h
  simp only [Bool.and_eq_true, decide_eq_true_eq] at h
  have h1 := inR_true h.1.1
  refine ⟨by omega, by omega, h.1.2, fun i hi => ?_⟩
  have h2 := h.2 i hi
  unfold nodeF at h2
  simp only [Bool.and_eq_true] at h2
  exact h2.1.1.1
set_option maxRecDepth 100000 in
set_option maxHeartbeats 2000000 in
theorem UnfoldFormula_any (v : Value) (f : List Nd) (w : World) (hn : f.length ≤ 1048576) (hls : ∀ i, i < f.length → (ndnth f i).lab.size ≤ 1048576) (hT : Env w) (hv : RdNd w v f) :
    Calls Tryz.prog 46 #[v] w fun e w' => ∃ u, e = .returned (.tuple #[u, .int .i64 (unfC f)]) ∧ OwNd w' w.heap.size u (unfO f) ∧ Below w.heap.size w w' := by
  have HV := Lib.hid hv
  have HT := Lib.hid hT
  clear hT
  obtain ⟨a, cap, rfl⟩ := hv.slice
  clear hv
  have hCe : Hid (unfC f = if validF f = true then (if isFix (ndnth f 0).kind = true then (if (putN f f).length ≤ 30 then 0 else 5) else 6) else 1) := Lib.hid rfl
  have hOe : Hid (unfO f = if unfC f = 0 then putN f f else []) := Lib.hid rfl
  obtain ⟨n, hxn⟩ : ∃ n, n = f.length := ⟨_, rfl⟩
  rw [← hxn] at HV ⊢
  have Hxn := Lib.hid hxn
  cases hvm : validF f with
  | false =>
    have hC : Hid (unfC f = 1) := Lib.hid (by rw [hCe.out, hvm]; rfl)
    have hM : Hid (unfO f = []) := Lib.hid (by rw [hOe.out, hC.out]; rfl)
    rw [hM.out, hC.out]
    clear hxn
    go_enter Tryz.func46, Tryz.ntmps46
    go_wp2_with fail
    refine (ValidFormula_any _ f _ hn hls HT.out HV.out).mono ?_
    rw [hvm]
    rintro e w1 ⟨rfl, hb1⟩
    go_wp2_with fail
    go_ret2
    exact ⟨_, rfl, OwNd_none _ _, hb1⟩
  | true =>
  obtain ⟨hp1, hp2, hp3, hp4⟩ := validF_parts hvm
  obtain ⟨b, o, rfl, hb, g0, g1, g2, g3⟩ := RdNd.cells HV.out (i := 0) (by omega)
  rw [Nat.zero_mul, Nat.add_zero] at g0 g1 g2 g3
  have hn0 : 0 < n := by omega
  clear hxn
  cases hfx : isFix (ndnth f 0).kind with
  | false =>
    have hC : Hid (unfC f = 6) := Lib.hid (by rw [hCe.out, hvm, hfx]; rfl)
    have hM : Hid (unfO f = []) := Lib.hid (by rw [hOe.out, hC.out]; rfl)
    rw [hM.out, hC.out]
    go_enter Tryz.func46, Tryz.ntmps46
    go_wp2_with fail
    refine (ValidFormula_any _ f _ hn hls HT.out HV.out).mono ?_
    rw [hvm]
    rintro e w1 ⟨rfl, hb1⟩
    have q0 := (hb1.cell (by exact hb)).trans g0
    have q1 := (hb1.cell (by exact hb)).trans g1
    have q2 := (hb1.cell (by exact hb)).trans g2
    have q3 := (hb1.cell (by exact hb)).trans g3
    go_wp2_with fail
    refine (isFixed_any _ _ _ _ _).mono ?_
    rw [hfx]
    rintro e w2 ⟨rfl, hb2⟩
    have hbl2 := below_trans' hb1 hb2
    go_wp2_with fail
    go_ret2
    exact ⟨_, rfl, OwNd_none _ _, hbl2⟩
  | true =>
  obtain ⟨L, hL⟩ : ∃ L, L = (putN f f).length := ⟨_, rfl⟩
  have HL := Lib.hid hL
  have hCe2 : Hid (unfC f = if L ≤ 30 then 0 else 5) := Lib.hid (by rw [hCe.out, hvm, hfx, hL]; rfl)
  clear hL
  by_cases h30 : L ≤ 30
  · have hC : Hid (unfC f = 0) := Lib.hid (by rw [hCe2.out, if_pos h30])
    have hM : Hid (unfO f = putN f f) := Lib.hid (by rw [hOe.out, hC.out]; rfl)
    have hd : ¬ (30 : Int) < L := by omega
    go_enter Tryz.func46, Tryz.ntmps46
    go_wp2_with fail
    refine (ValidFormula_any _ f _ hn hls HT.out HV.out).mono ?_
    rw [hvm]
    rintro e w1 ⟨rfl, hb1⟩
    have q0 := (hb1.cell (by exact hb)).trans g0
    have q1 := (hb1.cell (by exact hb)).trans g1
    have q2 := (hb1.cell (by exact hb)).trans g2
    have q3 := (hb1.cell (by exact hb)).trans g3
    go_wp2_with fail
    refine (isFixed_any _ _ _ _ _).mono ?_
    rw [hfx]
    rintro e w2 ⟨rfl, hb2⟩
    have hbl2 := below_trans' hb1 hb2
    go_wp2_with fail
    refine (instance_any _ _ f f _ hp1 hp2 hp2 hp3 (HV.out.below hbl2) (HV.out.below hbl2)).mono ?_
    rintro e w3 ⟨u, rfl, hu, hb3⟩
    have HU := Lib.hid hu
    obtain ⟨a3, c3, rfl⟩ := hu.rd.slice
    rw [← HL.out]
    have hbl3 := below_trans' hbl2 hb3
    have hz2 := hbl2.size
    clear hu
    go_wp2_with fail
    go_ret2
    rw [hM.out, hC.out, HL.out]
    exact ⟨_, rfl, HU.out.mono hz2, hbl3⟩
  · have hC : Hid (unfC f = 5) := Lib.hid (by rw [hCe2.out, if_neg h30])
    have hM : Hid (unfO f = []) := Lib.hid (by rw [hOe.out, hC.out]; rfl)
    have hd : (30 : Int) < L := by omega
    go_enter Tryz.func46, Tryz.ntmps46
    go_wp2_with fail
    refine (ValidFormula_any _ f _ hn hls HT.out HV.out).mono ?_
    rw [hvm]
    rintro e w1 ⟨rfl, hb1⟩
    have q0 := (hb1.cell (by exact hb)).trans g0
    have q1 := (hb1.cell (by exact hb)).trans g1
    have q2 := (hb1.cell (by exact hb)).trans g2
    have q3 := (hb1.cell (by exact hb)).trans g3
    go_wp2_with fail
    refine (isFixed_any _ _ _ _ _).mono ?_
    rw [hfx]
    rintro e w2 ⟨rfl, hb2⟩
    have hbl2 := below_trans' hb1 hb2
    go_wp2_with fail
    refine (instance_any _ _ f f _ hp1 hp2 hp2 hp3 (HV.out.below hbl2) (HV.out.below hbl2)).mono ?_
    rintro e w3 ⟨u, rfl, hu, hb3⟩
    have HU := Lib.hid hu
    obtain ⟨a3, c3, rfl⟩ := hu.rd.slice
    rw [← HL.out]
    have hbl3 := below_trans' hbl2 hb3
    have hz2 := hbl2.size
    clear hu
    go_wp2_with fail
    go_ret2
    rw [hM.out, hC.out]
    exact ⟨_, rfl, OwNd_none _ _, hbl3⟩
set_option maxRecDepth 100000 in
set_option maxHeartbeats 2000000 in
theorem spec_UnfoldFormula_any (v : Value) (f : List Nd) (w : World) (hn : f.length ≤ 1048576) (hls : ∀ i, i < f.length → (ndnth f i).lab.size ≤ 1048576) (hv : RdNd w v f) :
    Calls Tryz.prog 45 #[v] w fun e w' => ∃ u, e = .returned (.tuple #[u, .int .i64 (unfC f)]) ∧ OwNd w' w.heap.size u (unfO f) ∧ Below w.heap.size w w' := by
  have HV := Lib.hid hv
  obtain ⟨a, cap, rfl⟩ := hv.slice
  clear hv
  have hCe : Hid (unfC f = if validF f = true then (if isFix (ndnth f 0).kind = true then (if (putN f f).length ≤ 30 then 0 else 5) else 6) else 1) := Lib.hid rfl
  have hOe : Hid (unfO f = if unfC f = 0 then putN f f else []) := Lib.hid rfl
  obtain ⟨n, hxn⟩ : ∃ n, n = f.length := ⟨_, rfl⟩
  rw [← hxn] at HV ⊢
  have Hxn := Lib.hid hxn
  cases hvm : validF f with
  | false =>
    have hC : Hid (unfC f = 1) := Lib.hid (by rw [hCe.out, hvm]; rfl)
    have hM : Hid (unfO f = []) := Lib.hid (by rw [hOe.out, hC.out]; rfl)
    rw [hM.out, hC.out]
    clear hxn
    go_enter Tryz.func45, Tryz.ntmps45
    go_wp2_with fail
    refine (l19Is_any _ f _ hn hls HV.out).mono ?_
    rw [hvm]
    rintro e w1 ⟨rfl, hb1⟩
    go_wp2_with fail
    go_ret2
    exact ⟨_, rfl, OwNd_none _ _, hb1⟩
  | true =>
  obtain ⟨hp1, hp2, hp3, hp4⟩ := validF_parts hvm
  obtain ⟨b, o, rfl, hb, g0, g1, g2, g3⟩ := RdNd.cells HV.out (i := 0) (by omega)
  rw [Nat.zero_mul, Nat.add_zero] at g0 g1 g2 g3
  have hn0 : 0 < n := by omega
  clear hxn
  cases hfx : isFix (ndnth f 0).kind with
  | false =>
    have hC : Hid (unfC f = 6) := Lib.hid (by rw [hCe.out, hvm, hfx]; rfl)
    have hM : Hid (unfO f = []) := Lib.hid (by rw [hOe.out, hC.out]; rfl)
    rw [hM.out, hC.out]
    go_enter Tryz.func45, Tryz.ntmps45
    go_wp2_with fail
    refine (l19Is_any _ f _ hn hls HV.out).mono ?_
    rw [hvm]
    rintro e w1 ⟨rfl, hb1⟩
    have q0 := (hb1.cell (by exact hb)).trans g0
    have q1 := (hb1.cell (by exact hb)).trans g1
    have q2 := (hb1.cell (by exact hb)).trans g2
    have q3 := (hb1.cell (by exact hb)).trans g3
    go_wp2_with fail
    refine (l19Fixed_any _ _ (ndnth f 0).kind _ q0).mono ?_
    rw [hfx]
    rintro e w2 ⟨rfl, rfl⟩
    have hbl2 := hb1
    go_wp2_with fail
    go_ret2
    exact ⟨_, rfl, OwNd_none _ _, hbl2⟩
  | true =>
  obtain ⟨L, hL⟩ : ∃ L, L = (putN f f).length := ⟨_, rfl⟩
  have HL := Lib.hid hL
  have hCe2 : Hid (unfC f = if L ≤ 30 then 0 else 5) := Lib.hid (by rw [hCe.out, hvm, hfx, hL]; rfl)
  clear hL
  by_cases h30 : L ≤ 30
  · have hC : Hid (unfC f = 0) := Lib.hid (by rw [hCe2.out, if_pos h30])
    have hM : Hid (unfO f = putN f f) := Lib.hid (by rw [hOe.out, hC.out]; rfl)
    have hd : ¬ (30 : Int) < L := by omega
    go_enter Tryz.func45, Tryz.ntmps45
    go_wp2_with fail
    refine (l19Is_any _ f _ hn hls HV.out).mono ?_
    rw [hvm]
    rintro e w1 ⟨rfl, hb1⟩
    have q0 := (hb1.cell (by exact hb)).trans g0
    have q1 := (hb1.cell (by exact hb)).trans g1
    have q2 := (hb1.cell (by exact hb)).trans g2
    have q3 := (hb1.cell (by exact hb)).trans g3
    go_wp2_with fail
    refine (l19Fixed_any _ _ (ndnth f 0).kind _ q0).mono ?_
    rw [hfx]
    rintro e w2 ⟨rfl, rfl⟩
    have hbl2 := hb1
    go_wp2_with fail
    refine (l19Put_any _ _ f f _ hp1 hp2 hp2 hp3 hp4 (HV.out.below hbl2) (HV.out.below hbl2)).mono ?_
    rintro e w3 ⟨u, rfl, hu, hb3⟩
    have HU := Lib.hid hu
    obtain ⟨a3, c3, rfl⟩ := hu.rd.slice
    rw [← HL.out]
    have hbl3 := below_trans' hbl2 hb3
    have hz2 := hbl2.size
    clear hu
    go_wp2_with fail
    go_ret2
    rw [hM.out, hC.out, HL.out]
    exact ⟨_, rfl, HU.out.mono hz2, hbl3⟩
  · have hC : Hid (unfC f = 5) := Lib.hid (by rw [hCe2.out, if_neg h30])
    have hM : Hid (unfO f = []) := Lib.hid (by rw [hOe.out, hC.out]; rfl)
    have hd : (30 : Int) < L := by omega
    go_enter Tryz.func45, Tryz.ntmps45
    go_wp2_with fail
    refine (l19Is_any _ f _ hn hls HV.out).mono ?_
    rw [hvm]
    rintro e w1 ⟨rfl, hb1⟩
    have q0 := (hb1.cell (by exact hb)).trans g0
    have q1 := (hb1.cell (by exact hb)).trans g1
    have q2 := (hb1.cell (by exact hb)).trans g2
    have q3 := (hb1.cell (by exact hb)).trans g3
    go_wp2_with fail
    refine (l19Fixed_any _ _ (ndnth f 0).kind _ q0).mono ?_
    rw [hfx]
    rintro e w2 ⟨rfl, rfl⟩
    have hbl2 := hb1
    go_wp2_with fail
    refine (l19Put_any _ _ f f _ hp1 hp2 hp2 hp3 hp4 (HV.out.below hbl2) (HV.out.below hbl2)).mono ?_
    rintro e w3 ⟨u, rfl, hu, hb3⟩
    have HU := Lib.hid hu
    obtain ⟨a3, c3, rfl⟩ := hu.rd.slice
    rw [← HL.out]
    have hbl3 := below_trans' hbl2 hb3
    have hz2 := hbl2.size
    clear hu
    go_wp2_with fail
    go_ret2
    rw [hM.out, hC.out]
    exact ⟨_, rfl, OwNd_none _ _, hbl3⟩
end Go.Proofs.YtmaadfoiaegdjaaGreatDoor
