/- Contracts: ApproximantOf, of the program and of the reference. -/
import Derived.Test.YtbhkpnhlegiilaaGreatDoorProg
import Derived.Test.YtbhkpnhlegiilaaGreatDoorMem
import Derived.Test.YtbhkpnhlegiilaaGreatDoorMath
import Derived.Test.YtbhkpnhlegiilaaGreatDoorBasics
import Derived.Test.YtbhkpnhlegiilaaGreatDoorOpenI
import Derived.Test.YtbhkpnhlegiilaaGreatDoorHelpI
import Derived.Test.YtbhkpnhlegiilaaGreatDoorGrid
import Derived.Test.YtbhkpnhlegiilaaGreatDoorLab
import Derived.Test.YtbhkpnhlegiilaaGreatDoorDec
import Derived.Test.YtbhkpnhlegiilaaGreatDoorEnv
import Derived.Test.YtbhkpnhlegiilaaGreatDoorNode
import Derived.Test.YtbhkpnhlegiilaaGreatDoorNodeW
import Derived.Test.YtbhkpnhlegiilaaGreatDoorVMod
import Derived.Test.YtbhkpnhlegiilaaGreatDoorEnd
import Derived.Test.YtbhkpnhlegiilaaGreatDoorBind
import Derived.Test.YtbhkpnhlegiilaaGreatDoorVFor
import Derived.Test.YtbhkpnhlegiilaaGreatDoorConc
import Derived.Test.YtbhkpnhlegiilaaGreatDoorNds
import Derived.Test.YtbhkpnhlegiilaaGreatDoorFreq
import Derived.Test.YtbhkpnhlegiilaaGreatDoorInst
import Derived.Test.YtbhkpnhlegiilaaGreatDoorUnf
import Derived.WalkKit
import Derived.BigQuiet
import Derived.Maps.AppendAt
import Derived.Laws.OwnMore
import Derived.Lib.Hide
import Derived.Outline
set_option linter.unusedVariables false
set_option linter.unusedSimpArgs false
namespace Go.Proofs.YtbhkpnhlegiilaaGreatDoor
open Go.RowKit

def ap0 (f : List Nd) : Nd := nk (if (ndnth f 0).kind = 8 then 0 else 1)
def apTo (f : List Nd) : Nat → Option (List Nd)
  | 0 => some [ap0 f]
  | i + 1 => (apTo f i).bind fun g => if (putN f g).length ≤ 30 then some (putN f g) else none
def apC (f : List Nd) (n : Int) : Int :=
  if validF f = true then (if isFix (ndnth f 0).kind = true then (if inR n 0 40 = true then (if (apTo f n.toNat).isSome = true then 0 else 5) else 2) else 6) else 1
def apO (f : List Nd) (n : Int) : List Nd := if apC f n = 0 then (apTo f n.toNat).getD [] else []
theorem apTo_len {f : List Nd} : ∀ {i : Nat} {g : List Nd}, apTo f i = some g → g.length ≤ 30
  | 0, g, h => by cases h; simp
  | i + 1, g, h => by
    rw [apTo] at h
    cases h2 : apTo f i with
    | none => rw [h2] at h; cases h
    | some X =>
      rw [h2] at h
      simp only [Option.bind_some] at h
      split at h
      · next h3 => cases h; exact h3
      · cases h
theorem apTo_next {f g : List Nd} {i : Nat} (h : apTo f i = some g) : apTo f (i + 1) = if (putN f g).length ≤ 30 then some (putN f g) else none := by rw [apTo, h]; rfl
theorem apTo_none {f : List Nd} {i : Nat} (h : apTo f i = none) : ∀ q, i ≤ q → apTo f q = none := by
  intro q hq
  induction q with
  | zero => obtain rfl : i = 0 := by omega
            exact h
  | succ q ih =>
    by_cases e : i = q + 1
    · rw [← e]; exact h
    · rw [apTo, ih (by omega)]; rfl
theorem apO_len (f : List Nd) (n : Int) : (apO f n).length ≤ 30 := by
  unfold apO
  split
  · cases h : apTo f n.toNat with
    | none => simp
    | some g => exact apTo_len h
  · simp
set_option maxRecDepth 100000 in
set_option maxHeartbeats 4000000 in
theorem ApproximantOf_any (v : Value) (f : List Nd) (n : Int) (w : World) (hn : f.length ≤ 1048576) (hls : ∀ i, i < f.length → (ndnth f i).lab.size ≤ 1048576) (hT : Env w) (hv : RdNd w v f) :
    Calls Tryz.prog 19 #[v, .int .i64 n] w fun e w' => ∃ u, e = .returned (.tuple #[u, .int .i64 (apC f n)]) ∧ OwNd w' w.heap.size u (apO f n) ∧ Below w.heap.size w w' := by
  have HV := Lib.hid hv
  have HT := Lib.hid hT
  clear hT
  obtain ⟨a, cap, rfl⟩ := hv.slice
  clear hv
  obtain ⟨N, hxn⟩ : ∃ N, N = f.length := ⟨_, rfl⟩
  rw [← hxn] at HV ⊢
  have Hxn := Lib.hid hxn
  cases hvm : validF f with
  | false =>
    have hC : Hid (apC f n = 1) := Lib.hid (by unfold apC; rw [hvm]; rfl)
    have hM : Hid (apO f n = []) := Lib.hid (by unfold apO; rw [hC.out]; rfl)
    rw [hM.out, hC.out]
    clear hxn
    go_enter Tryz.func19, Tryz.ntmps19
    go_wp2_with fail
    refine (ValidFormula_any _ f _ hn hls HT.out HV.out).mono ?_
    rw [hvm]
    rintro e w1 ⟨rfl, hb1⟩
    go_wp2_with fail
    go_ret2
    exact ⟨_, rfl, OwNd_none _ _, hb1⟩
  | true =>
  obtain ⟨hp1, hp2, hp3, hp4⟩ := validF_parts hvm
  have HS := Lib.hid hp3
  have HK := Lib.hid hp4
  obtain ⟨b, o, rfl, hb, g0, g1, g2, g3⟩ := RdNd.cells HV.out (i := 0) (by omega)
  rw [Nat.zero_mul, Nat.add_zero] at g0 g1 g2 g3
  have hn0 : 0 < N := by omega
  clear hxn hp3 hp4
  cases hfx : isFix (ndnth f 0).kind with
  | false =>
    have hC : Hid (apC f n = 6) := Lib.hid (by unfold apC; rw [hvm, hfx]; rfl)
    have hM : Hid (apO f n = []) := Lib.hid (by unfold apO; rw [hC.out]; rfl)
    rw [hM.out, hC.out]
    go_enter Tryz.func19, Tryz.ntmps19
    go_wp2_with fail
    refine (ValidFormula_any _ f _ hn hls HT.out HV.out).mono ?_
    rw [hvm]
    rintro e w1 ⟨rfl, hb1⟩
    have q0 := (hb1.cell (by exact hb)).trans g0
    have q1 := (hb1.cell (by exact hb)).trans g1
    have q2 := (hb1.cell (by exact hb)).trans g2
    have q3 := (hb1.cell (by exact hb)).trans g3
    go_wp2_with fail
    refine (isFixed_any _ _ _ _ _).mono ?_
    rw [hfx]
    rintro e w2 ⟨rfl, hb2⟩
    have hbl2 := below_trans' hb1 hb2
    go_wp2_with fail
    go_ret2
    exact ⟨_, rfl, OwNd_none _ _, hbl2⟩
  | true =>
  cases hin : inR n 0 40 with
  | false =>
    have hC : Hid (apC f n = 2) := Lib.hid (by unfold apC; rw [hvm, hfx, hin]; rfl)
    have hM : Hid (apO f n = []) := Lib.hid (by unfold apO; rw [hC.out]; rfl)
    rw [hM.out, hC.out]
    go_enter Tryz.func19, Tryz.ntmps19
    go_wp2_with fail
    refine (ValidFormula_any _ f _ hn hls HT.out HV.out).mono ?_
    rw [hvm]
    rintro e w1 ⟨rfl, hb1⟩
    have q0 := (hb1.cell (by exact hb)).trans g0
    have q1 := (hb1.cell (by exact hb)).trans g1
    have q2 := (hb1.cell (by exact hb)).trans g2
    have q3 := (hb1.cell (by exact hb)).trans g3
    go_wp2_with fail
    refine (isFixed_any _ _ _ _ _).mono ?_
    rw [hfx]
    rintro e w2 ⟨rfl, hb2⟩
    have hbl2 := below_trans' hb1 hb2
    go_wp2_with fail
    refine (within_any _ _ _ _).mono ?_
    rw [hin]
    rintro e w3 ⟨rfl, rfl⟩
    go_wp2_with fail
    go_ret2
    exact ⟨_, rfl, OwNd_none _ _, hbl2⟩
  | true =>
  have hnr := inR_true hin
  obtain ⟨m, rfl⟩ : ∃ m : Nat, n = (m : Int) := ⟨n.toNat, by omega⟩
  have hm40 : m ≤ 40 := by omega
  have hCe : Hid (apC f m = if (apTo f m).isSome = true then 0 else 5) := Lib.hid (by unfold apC; rw [hvm, hfx, hin]; rw [show ((m : Int)).toNat = m by omega]; rfl)
  go_enter Tryz.func19, Tryz.ntmps19
  go_wp2_with fail
  refine (ValidFormula_any _ f _ hn hls HT.out HV.out).mono ?_
  rw [hvm]
  rintro e w1 ⟨rfl, hb1⟩
  have q0 := (hb1.cell (by exact hb)).trans g0
  have q1 := (hb1.cell (by exact hb)).trans g1
  have q2 := (hb1.cell (by exact hb)).trans g2
  have q3 := (hb1.cell (by exact hb)).trans g3
  go_wp2_with fail
  refine (isFixed_any _ _ _ _ _).mono ?_
  rw [hfx]
  rintro e w2 ⟨rfl, hb2⟩
  have hbl2 := below_trans' hb1 hb2
  go_wp2_with fail
  refine (within_any _ _ _ _).mono ?_
  rw [hin]
  rintro e w3 ⟨rfl, rfl⟩
  have e0 := (hbl2.cell (p := ⟨b, o, none⟩) hb).trans g0
  by_cases h8 : (ndnth f 0).kind = 8
  · obtain ⟨WA, hWA⟩ : ∃ WA : World, WA = w2.alloc (.cells #[.int .i64 1, .int .i64 0, .string ⟨#[]⟩, .bool false] 37) := ⟨_, rfl⟩
    have hbA : Below w.heap.size w WA := by rw [hWA]; exact hbl2.alloc hbl2.size _
    have hown : WA.ownsRow w.heap.size 37 4 (.slice (some ⟨w2.heap.size, 0, none⟩) 1 1) 1 (ndCells [nk 1]) := by
      rw [hWA]
      exact ⟨by rw [ndCells_len]; rfl, Or.inr ⟨w2.heap.size, 1, _, rfl, hbl2.size, heap_alloc_new w2 _, Nat.le_refl _, by unfold maxLen; omega, rfl, rfl⟩⟩
    have hbel : Below w2.heap.size w2 WA := by rw [hWA]; exact (Below.refl _ _).alloc (Nat.le_refl _) _
    have c0 := (hown.cellAt 0 (by decide)).trans (show _ = some (Value.int .i64 1) by rfl)
    have hfz := hown.frozenAt 0
    have hst := (hown.stored 0 (.int .i64 0)).1
    have HO0 : Hid (OwNd (WA.setCell ⟨w2.heap.size, 0, none⟩ (.int .i64 0)) w.heap.size (.slice (some ⟨w2.heap.size, 0, none⟩) 1 1) [ap0 f]) := Lib.hid (own_nd (by rw [show ap0 f = nk 0 by unfold ap0; rw [if_pos h8]]; exact hst))
    have hbl0 : Below w.heap.size w (WA.setCell ⟨w2.heap.size, 0, none⟩ (.int .i64 0)) := hbA.setCell hbl2.size _
    have HO1 : Hid (OwNd (w2.alloc (.cells #[.int .i64 0, .int .i64 0, .string ⟨#[]⟩, .bool false] 37)) w.heap.size (.slice (some ⟨w2.heap.size, 0, none⟩) 1 1) [ap0 f]) := Lib.hid (by
      rw [show ap0 f = nk 0 by unfold ap0; rw [if_pos h8]]
      exact own_nd (n := 1) ⟨by rw [ndCells_len]; rfl, Or.inr ⟨w2.heap.size, 1, _, rfl, hbl2.size, heap_alloc_new w2 _, Nat.le_refl _, by unfold maxLen; omega, rfl, rfl⟩⟩)
    have hbl1 : Below w.heap.size w (w2.alloc (.cells #[.int .i64 0, .int .i64 0, .string ⟨#[]⟩, .bool false] 37)) := hbl2.alloc hbl2.size _
    have d0 := (hbel.cell (p := ⟨b, o, none⟩) (Nat.lt_of_lt_of_le hb hbl2.size)).trans e0
    have hkb : ((ndnth f 0).kind == 8) = true := by simpa using h8
    clear h8 hst hown g0 g1 g2 g3 q0 q1 q2 q3 e0
    subst hWA
    go_wp2_with fail
    go_loopw [6, 32] (fun so si wr => ∃ (i : Nat) (g : List Nd), i ≤ m ∧ si = .int .i64 i ∧ Hid (apTo f i = some g) ∧ Hid (OwNd wr w.heap.size so g) ∧ Below w.heap.size w wr) (fun _ si _ => m - (intOf si).toNat)
    case atStart => first | exact ⟨0, _, Nat.zero_le _, rfl, Lib.hid rfl, HO0, hbl0⟩ | exact ⟨0, _, Nat.zero_le _, rfl, Lib.hid rfl, HO1, hbl1⟩
    case round =>
      clear hbl0 HO0
      try clear HO1 hbl1
      obtain ⟨i, g, hi, rfl, HA, HO, hbl⟩ := hrel
      obtain ⟨ag, cg, rfl⟩ := HO.out.rd.slice
      have hgl := apTo_len HA.out
      by_cases him : i < m
      · obtain ⟨L, hL⟩ : ∃ L, L = (putN f g).length := ⟨_, rfl⟩
        have hnx := apTo_next HA.out
        rw [← hL] at hnx
        have HL := Lib.hid hL
        clear hL
        by_cases h30 : L ≤ 30
        · rw [if_pos h30] at hnx
          have HN := Lib.hid hnx
          have hd : ¬ (30 : Int) < L := by omega
          clear hnx
          go_wp2_with fail
          refine (instance_any _ _ f g _ hp1 hp2 (apTo_len HA.out) HS.out (HV.out.below hbl) HO.out.rd).mono ?_
          rintro e w4 ⟨u, rfl, hu, hb4⟩
          have HU : Hid (OwNd w4 w.heap.size u (putN f g)) := Lib.hid (hu.mono hbl.size)
          obtain ⟨a4, c4, rfl⟩ := hu.rd.slice
          rw [← HL.out]
          rw [← HL.out] at HU
          have hbl4 := below_trans' hbl hb4
          clear hu hb4
          go_wp2_with fail
          go_roundw
          case rel => exact ⟨i + 1, putN f g, by omega, by go_num, HN, HU, hbl4⟩
          case measure => simp [intOf] <;> omega
        · rw [if_neg h30] at hnx
          have hno := apTo_none hnx m him
          have hC : Hid (apC f m = 5) := Lib.hid (by rw [hCe.out, hno]; rfl)
          have hM : Hid (apO f m = []) := Lib.hid (by unfold apO; rw [hC.out]; rfl)
          have hd : (30 : Int) < L := by omega
          clear hnx hno
          go_wp2_with fail
          refine (instance_any _ _ f g _ hp1 hp2 (apTo_len HA.out) HS.out (HV.out.below hbl) HO.out.rd).mono ?_
          rintro e w4 ⟨u, rfl, hu, hb4⟩
          obtain ⟨a4, c4, rfl⟩ := hu.rd.slice
          rw [← HL.out]
          have hbl4 := below_trans' hbl hb4
          clear hu hb4
          go_wp2_with fail
          go_ret2
          rw [hM.out, hC.out]
          exact ⟨_, rfl, OwNd_none _ _, hbl4⟩
      · obtain rfl : i = m := by omega
        have hC : Hid (apC f i = 0) := Lib.hid (by rw [hCe.out, HA.out]; rfl)
        have hM : Hid (apO f i = g) := Lib.hid (by unfold apO; rw [hC.out, if_pos rfl, show ((i : Int)).toNat = i by omega, HA.out]; rfl)
        go_wp2_with fail
        go_ret2
        rw [hM.out, hC.out]
        exact ⟨_, rfl, HO.out, hbl⟩
  · obtain ⟨WA, hWA⟩ : ∃ WA : World, WA = w2.alloc (.cells #[.int .i64 1, .int .i64 0, .string ⟨#[]⟩, .bool false] 37) := ⟨_, rfl⟩
    have hbA : Below w.heap.size w WA := by rw [hWA]; exact hbl2.alloc hbl2.size _
    have hown : WA.ownsRow w.heap.size 37 4 (.slice (some ⟨w2.heap.size, 0, none⟩) 1 1) 1 (ndCells [nk 1]) := by
      rw [hWA]
      exact ⟨by rw [ndCells_len]; rfl, Or.inr ⟨w2.heap.size, 1, _, rfl, hbl2.size, heap_alloc_new w2 _, Nat.le_refl _, by unfold maxLen; omega, rfl, rfl⟩⟩
    have hbel : Below w2.heap.size w2 WA := by rw [hWA]; exact (Below.refl _ _).alloc (Nat.le_refl _) _
    have HO0 : Hid (OwNd WA w.heap.size (.slice (some ⟨w2.heap.size, 0, none⟩) 1 1) [ap0 f]) := Lib.hid (own_nd (by rw [show ap0 f = nk 1 by unfold ap0; rw [if_neg h8]]; exact hown))
    have hbl0 := hbA
    have d0 := (hbel.cell (p := ⟨b, o, none⟩) (Nat.lt_of_lt_of_le hb hbl2.size)).trans e0
    have hkb : ((ndnth f 0).kind == 8) = false := by simpa using h8
    clear h8 hown g0 g1 g2 g3 q0 q1 q2 q3 e0
    subst hWA
    go_wp2_with fail
    go_loopw [6, 32] (fun so si wr => ∃ (i : Nat) (g : List Nd), i ≤ m ∧ si = .int .i64 i ∧ Hid (apTo f i = some g) ∧ Hid (OwNd wr w.heap.size so g) ∧ Below w.heap.size w wr) (fun _ si _ => m - (intOf si).toNat)
    case atStart => first | exact ⟨0, _, Nat.zero_le _, rfl, Lib.hid rfl, HO0, hbl0⟩ | exact ⟨0, _, Nat.zero_le _, rfl, Lib.hid rfl, HO1, hbl1⟩
    case round =>
      clear hbl0 HO0
      try clear HO1 hbl1
      obtain ⟨i, g, hi, rfl, HA, HO, hbl⟩ := hrel
      obtain ⟨ag, cg, rfl⟩ := HO.out.rd.slice
      have hgl := apTo_len HA.out
      by_cases him : i < m
      · obtain ⟨L, hL⟩ : ∃ L, L = (putN f g).length := ⟨_, rfl⟩
        have hnx := apTo_next HA.out
        rw [← hL] at hnx
        have HL := Lib.hid hL
        clear hL
        by_cases h30 : L ≤ 30
        · rw [if_pos h30] at hnx
          have HN := Lib.hid hnx
          have hd : ¬ (30 : Int) < L := by omega
          clear hnx
          go_wp2_with fail
          refine (instance_any _ _ f g _ hp1 hp2 (apTo_len HA.out) HS.out (HV.out.below hbl) HO.out.rd).mono ?_
          rintro e w4 ⟨u, rfl, hu, hb4⟩
          have HU : Hid (OwNd w4 w.heap.size u (putN f g)) := Lib.hid (hu.mono hbl.size)
          obtain ⟨a4, c4, rfl⟩ := hu.rd.slice
          rw [← HL.out]
          rw [← HL.out] at HU
          have hbl4 := below_trans' hbl hb4
          clear hu hb4
          go_wp2_with fail
          go_roundw
          case rel => exact ⟨i + 1, putN f g, by omega, by go_num, HN, HU, hbl4⟩
          case measure => simp [intOf] <;> omega
        · rw [if_neg h30] at hnx
          have hno := apTo_none hnx m him
          have hC : Hid (apC f m = 5) := Lib.hid (by rw [hCe.out, hno]; rfl)
          have hM : Hid (apO f m = []) := Lib.hid (by unfold apO; rw [hC.out]; rfl)
          have hd : (30 : Int) < L := by omega
          clear hnx hno
          go_wp2_with fail
          refine (instance_any _ _ f g _ hp1 hp2 (apTo_len HA.out) HS.out (HV.out.below hbl) HO.out.rd).mono ?_
          rintro e w4 ⟨u, rfl, hu, hb4⟩
          obtain ⟨a4, c4, rfl⟩ := hu.rd.slice
          rw [← HL.out]
          have hbl4 := below_trans' hbl hb4
          clear hu hb4
          go_wp2_with fail
          go_ret2
          rw [hM.out, hC.out]
          exact ⟨_, rfl, OwNd_none _ _, hbl4⟩
      · obtain rfl : i = m := by omega
        have hC : Hid (apC f i = 0) := Lib.hid (by rw [hCe.out, HA.out]; rfl)
        have hM : Hid (apO f i = g) := Lib.hid (by unfold apO; rw [hC.out, if_pos rfl, show ((i : Int)).toNat = i by omega, HA.out]; rfl)
        go_wp2_with fail
        go_ret2
        rw [hM.out, hC.out]
        exact ⟨_, rfl, HO.out, hbl⟩
set_option maxRecDepth 100000 in
set_option maxHeartbeats 4000000 in
theorem spec_ApproximantOf_any (v : Value) (f : List Nd) (n : Int) (w : World) (hn : f.length ≤ 1048576) (hls : ∀ i, i < f.length → (ndnth f i).lab.size ≤ 1048576) (hv : RdNd w v f) :
    Calls Tryz.prog 18 #[v, .int .i64 n] w fun e w' => ∃ u, e = .returned (.tuple #[u, .int .i64 (apC f n)]) ∧ OwNd w' w.heap.size u (apO f n) ∧ Below w.heap.size w w' := by
  have HV := Lib.hid hv
  obtain ⟨a, cap, rfl⟩ := hv.slice
  clear hv
  obtain ⟨N, hxn⟩ : ∃ N, N = f.length := ⟨_, rfl⟩
  rw [← hxn] at HV ⊢
  have Hxn := Lib.hid hxn
  cases hvm : validF f with
  | false =>
    have hC : Hid (apC f n = 1) := Lib.hid (by unfold apC; rw [hvm]; rfl)
    have hM : Hid (apO f n = []) := Lib.hid (by unfold apO; rw [hC.out]; rfl)
    rw [hM.out, hC.out]
    clear hxn
    go_enter Tryz.func18, Tryz.ntmps18
    go_wp2_with fail
    refine (l19Is_any _ f _ hn hls HV.out).mono ?_
    rw [hvm]
    rintro e w1 ⟨rfl, hb1⟩
    go_wp2_with fail
    go_ret2
    exact ⟨_, rfl, OwNd_none _ _, hb1⟩
  | true =>
  obtain ⟨hp1, hp2, hp3, hp4⟩ := validF_parts hvm
  have HS := Lib.hid hp3
  have HK := Lib.hid hp4
  obtain ⟨b, o, rfl, hb, g0, g1, g2, g3⟩ := RdNd.cells HV.out (i := 0) (by omega)
  rw [Nat.zero_mul, Nat.add_zero] at g0 g1 g2 g3
  have hn0 : 0 < N := by omega
  clear hxn hp3 hp4
  cases hfx : isFix (ndnth f 0).kind with
  | false =>
    have hC : Hid (apC f n = 6) := Lib.hid (by unfold apC; rw [hvm, hfx]; rfl)
    have hM : Hid (apO f n = []) := Lib.hid (by unfold apO; rw [hC.out]; rfl)
    rw [hM.out, hC.out]
    go_enter Tryz.func18, Tryz.ntmps18
    go_wp2_with fail
    refine (l19Is_any _ f _ hn hls HV.out).mono ?_
    rw [hvm]
    rintro e w1 ⟨rfl, hb1⟩
    have q0 := (hb1.cell (by exact hb)).trans g0
    have q1 := (hb1.cell (by exact hb)).trans g1
    have q2 := (hb1.cell (by exact hb)).trans g2
    have q3 := (hb1.cell (by exact hb)).trans g3
    go_wp2_with fail
    refine (l19Fixed_any _ _ (ndnth f 0).kind _ q0).mono ?_
    rw [hfx]
    rintro e w2 ⟨rfl, rfl⟩
    have hbl2 := hb1
    go_wp2_with fail
    go_ret2
    exact ⟨_, rfl, OwNd_none _ _, hbl2⟩
  | true =>
  cases hin : inR n 0 40 with
  | false =>
    have hC : Hid (apC f n = 2) := Lib.hid (by unfold apC; rw [hvm, hfx, hin]; rfl)
    have hM : Hid (apO f n = []) := Lib.hid (by unfold apO; rw [hC.out]; rfl)
    rw [hM.out, hC.out]
    go_enter Tryz.func18, Tryz.ntmps18
    go_wp2_with fail
    refine (l19Is_any _ f _ hn hls HV.out).mono ?_
    rw [hvm]
    rintro e w1 ⟨rfl, hb1⟩
    have q0 := (hb1.cell (by exact hb)).trans g0
    have q1 := (hb1.cell (by exact hb)).trans g1
    have q2 := (hb1.cell (by exact hb)).trans g2
    have q3 := (hb1.cell (by exact hb)).trans g3
    go_wp2_with fail
    refine (l19Fixed_any _ _ (ndnth f 0).kind _ q0).mono ?_
    rw [hfx]
    rintro e w2 ⟨rfl, rfl⟩
    have hbl2 := hb1
    go_wp2_with fail
    refine (l00In_any _ _ _ _).mono ?_
    rw [hin]
    rintro e w3 ⟨rfl, rfl⟩
    go_wp2_with fail
    go_ret2
    exact ⟨_, rfl, OwNd_none _ _, hbl2⟩
  | true =>
  have hnr := inR_true hin
  obtain ⟨m, rfl⟩ : ∃ m : Nat, n = (m : Int) := ⟨n.toNat, by omega⟩
  have hm40 : m ≤ 40 := by omega
  have hCe : Hid (apC f m = if (apTo f m).isSome = true then 0 else 5) := Lib.hid (by unfold apC; rw [hvm, hfx, hin]; rw [show ((m : Int)).toNat = m by omega]; rfl)
  go_enter Tryz.func18, Tryz.ntmps18
  go_wp2_with fail
  refine (l19Is_any _ f _ hn hls HV.out).mono ?_
  rw [hvm]
  rintro e w1 ⟨rfl, hb1⟩
  have q0 := (hb1.cell (by exact hb)).trans g0
  have q1 := (hb1.cell (by exact hb)).trans g1
  have q2 := (hb1.cell (by exact hb)).trans g2
  have q3 := (hb1.cell (by exact hb)).trans g3
  go_wp2_with fail
  refine (l19Fixed_any _ _ (ndnth f 0).kind _ q0).mono ?_
  rw [hfx]
  rintro e w2 ⟨rfl, rfl⟩
  have hbl2 := hb1
  go_wp2_with fail
  refine (l00In_any _ _ _ _).mono ?_
  rw [hin]
  rintro e w3 ⟨rfl, rfl⟩
  have e0 := (hbl2.cell (p := ⟨b, o, none⟩) hb).trans g0
  by_cases h8 : (ndnth f 0).kind = 8
  · obtain ⟨WA, hWA⟩ : ∃ WA : World, WA = w1.alloc (.cells #[.int .i64 1, .int .i64 0, .string ⟨#[]⟩, .bool false] 37) := ⟨_, rfl⟩
    have hbA : Below w.heap.size w WA := by rw [hWA]; exact hbl2.alloc hbl2.size _
    have hown : WA.ownsRow w.heap.size 37 4 (.slice (some ⟨w1.heap.size, 0, none⟩) 1 1) 1 (ndCells [nk 1]) := by
      rw [hWA]
      exact ⟨by rw [ndCells_len]; rfl, Or.inr ⟨w1.heap.size, 1, _, rfl, hbl2.size, heap_alloc_new w1 _, Nat.le_refl _, by unfold maxLen; omega, rfl, rfl⟩⟩
    have hbel : Below w1.heap.size w1 WA := by rw [hWA]; exact (Below.refl _ _).alloc (Nat.le_refl _) _
    have c0 := (hown.cellAt 0 (by decide)).trans (show _ = some (Value.int .i64 1) by rfl)
    have hfz := hown.frozenAt 0
    have hst := (hown.stored 0 (.int .i64 0)).1
    have HO0 : Hid (OwNd (WA.setCell ⟨w1.heap.size, 0, none⟩ (.int .i64 0)) w.heap.size (.slice (some ⟨w1.heap.size, 0, none⟩) 1 1) [ap0 f]) := Lib.hid (own_nd (by rw [show ap0 f = nk 0 by unfold ap0; rw [if_pos h8]]; exact hst))
    have hbl0 : Below w.heap.size w (WA.setCell ⟨w1.heap.size, 0, none⟩ (.int .i64 0)) := hbA.setCell hbl2.size _
    have HO1 : Hid (OwNd (w1.alloc (.cells #[.int .i64 0, .int .i64 0, .string ⟨#[]⟩, .bool false] 37)) w.heap.size (.slice (some ⟨w1.heap.size, 0, none⟩) 1 1) [ap0 f]) := Lib.hid (by
      rw [show ap0 f = nk 0 by unfold ap0; rw [if_pos h8]]
      exact own_nd (n := 1) ⟨by rw [ndCells_len]; rfl, Or.inr ⟨w1.heap.size, 1, _, rfl, hbl2.size, heap_alloc_new w1 _, Nat.le_refl _, by unfold maxLen; omega, rfl, rfl⟩⟩)
    have hbl1 : Below w.heap.size w (w1.alloc (.cells #[.int .i64 0, .int .i64 0, .string ⟨#[]⟩, .bool false] 37)) := hbl2.alloc hbl2.size _
    have d0 := (hbel.cell (p := ⟨b, o, none⟩) (Nat.lt_of_lt_of_le hb hbl2.size)).trans e0
    have hkb : ((ndnth f 0).kind == 8) = true := by simpa using h8
    clear h8 hst hown g0 g1 g2 g3 q0 q1 q2 q3 e0
    subst hWA
    go_wp2_with fail
    go_loopw [1, 6] (fun si so wr => ∃ (i : Nat) (g : List Nd), i ≤ m ∧ si = .int .i64 ((m : Int) - i) ∧ Hid (apTo f i = some g) ∧ Hid (OwNd wr w.heap.size so g) ∧ Below w.heap.size w wr) (fun si _ _ => (intOf si).toNat)
    case atStart => first | exact ⟨0, _, Nat.zero_le _, by simp, Lib.hid rfl, HO0, hbl0⟩ | exact ⟨0, _, Nat.zero_le _, by simp, Lib.hid rfl, HO1, hbl1⟩
    case round =>
      clear hbl0 HO0
      try clear HO1 hbl1
      obtain ⟨i, g, hi, rfl, HA, HO, hbl⟩ := hrel
      obtain ⟨ag, cg, rfl⟩ := HO.out.rd.slice
      have hgl := apTo_len HA.out
      by_cases him : i < m
      · obtain ⟨L, hL⟩ : ∃ L, L = (putN f g).length := ⟨_, rfl⟩
        have hnx := apTo_next HA.out
        rw [← hL] at hnx
        have HL := Lib.hid hL
        clear hL
        by_cases h30 : L ≤ 30
        · rw [if_pos h30] at hnx
          have HN := Lib.hid hnx
          have hd : ¬ (30 : Int) < L := by omega
          clear hnx
          have hmi : 0 < (m : Int) - (i : Int) := by omega
          go_wp2_with fail
          refine (l19Put_any _ _ f g _ hp1 hp2 (apTo_len HA.out) HS.out HK.out (HV.out.below hbl) HO.out.rd).mono ?_
          rintro e w4 ⟨u, rfl, hu, hb4⟩
          have HU : Hid (OwNd w4 w.heap.size u (putN f g)) := Lib.hid (hu.mono hbl.size)
          obtain ⟨a4, c4, rfl⟩ := hu.rd.slice
          rw [← HL.out]
          rw [← HL.out] at HU
          have hbl4 := below_trans' hbl hb4
          clear hu hb4
          go_wp2_with fail
          go_roundw
          case rel => exact ⟨i + 1, putN f g, by omega, by rw [show ((m : Int) - ((i + 1 : Nat) : Int)) = (m : Int) - (i : Int) - 1 by omega], HN, HU, hbl4⟩
          case measure => simp [intOf] <;> omega
        · rw [if_neg h30] at hnx
          have hno := apTo_none hnx m him
          have hC : Hid (apC f m = 5) := Lib.hid (by rw [hCe.out, hno]; rfl)
          have hM : Hid (apO f m = []) := Lib.hid (by unfold apO; rw [hC.out]; rfl)
          have hd : (30 : Int) < L := by omega
          clear hnx hno
          have hmi : 0 < (m : Int) - (i : Int) := by omega
          go_wp2_with fail
          refine (l19Put_any _ _ f g _ hp1 hp2 (apTo_len HA.out) HS.out HK.out (HV.out.below hbl) HO.out.rd).mono ?_
          rintro e w4 ⟨u, rfl, hu, hb4⟩
          obtain ⟨a4, c4, rfl⟩ := hu.rd.slice
          rw [← HL.out]
          have hbl4 := below_trans' hbl hb4
          clear hu hb4
          go_wp2_with fail
          go_ret2
          rw [hM.out, hC.out]
          exact ⟨_, rfl, OwNd_none _ _, hbl4⟩
      · obtain rfl : i = m := by omega
        have hC : Hid (apC f i = 0) := Lib.hid (by rw [hCe.out, HA.out]; rfl)
        have hM : Hid (apO f i = g) := Lib.hid (by unfold apO; rw [hC.out, if_pos rfl, show ((i : Int)).toNat = i by omega, HA.out]; rfl)
        go_wp2_with fail
        go_ret2
        rw [hM.out, hC.out]
        exact ⟨_, rfl, HO.out, hbl⟩
  · obtain ⟨WA, hWA⟩ : ∃ WA : World, WA = w1.alloc (.cells #[.int .i64 1, .int .i64 0, .string ⟨#[]⟩, .bool false] 37) := ⟨_, rfl⟩
    have hbA : Below w.heap.size w WA := by rw [hWA]; exact hbl2.alloc hbl2.size _
    have hown : WA.ownsRow w.heap.size 37 4 (.slice (some ⟨w1.heap.size, 0, none⟩) 1 1) 1 (ndCells [nk 1]) := by
      rw [hWA]
      exact ⟨by rw [ndCells_len]; rfl, Or.inr ⟨w1.heap.size, 1, _, rfl, hbl2.size, heap_alloc_new w1 _, Nat.le_refl _, by unfold maxLen; omega, rfl, rfl⟩⟩
    have hbel : Below w1.heap.size w1 WA := by rw [hWA]; exact (Below.refl _ _).alloc (Nat.le_refl _) _
    have HO0 : Hid (OwNd WA w.heap.size (.slice (some ⟨w1.heap.size, 0, none⟩) 1 1) [ap0 f]) := Lib.hid (own_nd (by rw [show ap0 f = nk 1 by unfold ap0; rw [if_neg h8]]; exact hown))
    have hbl0 := hbA
    have d0 := (hbel.cell (p := ⟨b, o, none⟩) (Nat.lt_of_lt_of_le hb hbl2.size)).trans e0
    have hkb : ((ndnth f 0).kind == 8) = false := by simpa using h8
    clear h8 hown g0 g1 g2 g3 q0 q1 q2 q3 e0
    subst hWA
    go_wp2_with fail
    go_loopw [1, 6] (fun si so wr => ∃ (i : Nat) (g : List Nd), i ≤ m ∧ si = .int .i64 ((m : Int) - i) ∧ Hid (apTo f i = some g) ∧ Hid (OwNd wr w.heap.size so g) ∧ Below w.heap.size w wr) (fun si _ _ => (intOf si).toNat)
    case atStart => first | exact ⟨0, _, Nat.zero_le _, by simp, Lib.hid rfl, HO0, hbl0⟩ | exact ⟨0, _, Nat.zero_le _, by simp, Lib.hid rfl, HO1, hbl1⟩
    case round =>
      clear hbl0 HO0
      try clear HO1 hbl1
      obtain ⟨i, g, hi, rfl, HA, HO, hbl⟩ := hrel
      obtain ⟨ag, cg, rfl⟩ := HO.out.rd.slice
      have hgl := apTo_len HA.out
      by_cases him : i < m
      · obtain ⟨L, hL⟩ : ∃ L, L = (putN f g).length := ⟨_, rfl⟩
        have hnx := apTo_next HA.out
        rw [← hL] at hnx
        have HL := Lib.hid hL
        clear hL
        by_cases h30 : L ≤ 30
        · rw [if_pos h30] at hnx
          have HN := Lib.hid hnx
          have hd : ¬ (30 : Int) < L := by omega
          clear hnx
          have hmi : 0 < (m : Int) - (i : Int) := by omega
          go_wp2_with fail
          refine (l19Put_any _ _ f g _ hp1 hp2 (apTo_len HA.out) HS.out HK.out (HV.out.below hbl) HO.out.rd).mono ?_
          rintro e w4 ⟨u, rfl, hu, hb4⟩
          have HU : Hid (OwNd w4 w.heap.size u (putN f g)) := Lib.hid (hu.mono hbl.size)
          obtain ⟨a4, c4, rfl⟩ := hu.rd.slice
          rw [← HL.out]
          rw [← HL.out] at HU
          have hbl4 := below_trans' hbl hb4
          clear hu hb4
          go_wp2_with fail
          go_roundw
          case rel => exact ⟨i + 1, putN f g, by omega, by rw [show ((m : Int) - ((i + 1 : Nat) : Int)) = (m : Int) - (i : Int) - 1 by omega], HN, HU, hbl4⟩
          case measure => simp [intOf] <;> omega
        · rw [if_neg h30] at hnx
          have hno := apTo_none hnx m him
          have hC : Hid (apC f m = 5) := Lib.hid (by rw [hCe.out, hno]; rfl)
          have hM : Hid (apO f m = []) := Lib.hid (by unfold apO; rw [hC.out]; rfl)
          have hd : (30 : Int) < L := by omega
          clear hnx hno
          have hmi : 0 < (m : Int) - (i : Int) := by omega
          go_wp2_with fail
          refine (l19Put_any _ _ f g _ hp1 hp2 (apTo_len HA.out) HS.out HK.out (HV.out.below hbl) HO.out.rd).mono ?_
          rintro e w4 ⟨u, rfl, hu, hb4⟩
          obtain ⟨a4, c4, rfl⟩ := hu.rd.slice
          rw [← HL.out]
          have hbl4 := below_trans' hbl hb4
          clear hu hb4
          go_wp2_with fail
          go_ret2
          rw [hM.out, hC.out]
          exact ⟨_, rfl, OwNd_none _ _, hbl4⟩
      · obtain rfl : i = m := by omega
        have hC : Hid (apC f i = 0) := Lib.hid (by rw [hCe.out, HA.out]; rfl)
        have hM : Hid (apO f i = g) := Lib.hid (by unfold apO; rw [hC.out, if_pos rfl, show ((i : Int)).toNat = i by omega, HA.out]; rfl)
        go_wp2_with fail
        go_ret2
        rw [hM.out, hC.out]
        exact ⟨_, rfl, HO.out, hbl⟩
end Go.Proofs.YtbhkpnhlegiilaaGreatDoor
