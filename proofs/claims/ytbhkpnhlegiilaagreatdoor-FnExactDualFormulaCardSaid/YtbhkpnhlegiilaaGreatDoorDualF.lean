/- Contracts: DualFormula, of the program and of the reference. -/
import Derived.Test.YtbhkpnhlegiilaaGreatDoorProg
import Derived.Test.YtbhkpnhlegiilaaGreatDoorMem
import Derived.Test.YtbhkpnhlegiilaaGreatDoorMath
import Derived.Test.YtbhkpnhlegiilaaGreatDoorBasics
import Derived.Test.YtbhkpnhlegiilaaGreatDoorOpenI
import Derived.Test.YtbhkpnhlegiilaaGreatDoorHelpI
import Derived.Test.YtbhkpnhlegiilaaGreatDoorGrid
import Derived.Test.YtbhkpnhlegiilaaGreatDoorLab
import Derived.Test.YtbhkpnhlegiilaaGreatDoorDec
import Derived.Test.YtbhkpnhlegiilaaGreatDoorEnv
import Derived.Test.YtbhkpnhlegiilaaGreatDoorNode
import Derived.Test.YtbhkpnhlegiilaaGreatDoorNodeW
import Derived.Test.YtbhkpnhlegiilaaGreatDoorVMod
import Derived.Test.YtbhkpnhlegiilaaGreatDoorEnd
import Derived.Test.YtbhkpnhlegiilaaGreatDoorBind
import Derived.Test.YtbhkpnhlegiilaaGreatDoorVFor
import Derived.Test.YtbhkpnhlegiilaaGreatDoorConc
import Derived.Test.YtbhkpnhlegiilaaGreatDoorNds
import Derived.Test.YtbhkpnhlegiilaaGreatDoorFreq
import Derived.Test.YtbhkpnhlegiilaaGreatDoorInst
import Derived.Test.YtbhkpnhlegiilaaGreatDoorMark
import Derived.Test.YtbhkpnhlegiilaaGreatDoorDual
import Derived.Test.YtbhkpnhlegiilaaGreatDoorUnf
import Derived.WalkKit
import Derived.BigQuiet
import Derived.Maps.AppendAt
import Derived.Laws.OwnMore
import Derived.Lib.Hide
import Derived.Outline
set_option linter.unusedVariables false
set_option linter.unusedSimpArgs false
namespace Go.Proofs.YtbhkpnhlegiilaaGreatDoor
open Go.RowKit

def dfM (f : List Nd) : List Nd := if validF f = true then dualL f else []
def dfC (f : List Nd) : Int := if validF f = true then 0 else 1
theorem dfM_len (f : List Nd) : (dfM f).length ≤ 30 := by
  unfold dfM
  split
  · next h => rw [dualL_len]; exact validF_len h
  · simp
theorem DualFormula_any (v : Value) (f : List Nd) (w : World) (hn : f.length ≤ 1048576) (hls : ∀ i, i < f.length → (ndnth f i).lab.size ≤ 1048576) (hT : Env w) (hv : RdNd w v f) :
    Calls Tryz.prog 17 #[v] w fun e w' => ∃ u, e = .returned (.tuple #[u, .int .i64 (dfC f)]) ∧ OwNd w' w.heap.size u (dfM f) ∧ Below w.heap.size w w' := by
  have HV := Lib.hid hv
  obtain ⟨a, cap, rfl⟩ := hv.slice
  clear hv
  cases hvm : validF f with
  | false =>
    have hM : Hid (dfM f = []) := Lib.hid (by unfold dfM; rw [hvm]; rfl)
    have hC : Hid (dfC f = 1) := Lib.hid (by unfold dfC; rw [hvm]; rfl)
    rw [hM.out, hC.out]
    go_enter Tryz.func17, Tryz.ntmps17
    go_wp2_with fail
    refine (ValidFormula_any _ f _ hn hls hT HV.out).mono ?_
    rw [hvm]
    rintro e w1 ⟨rfl, hb1⟩
    go_wp2_with fail
    go_ret2
    exact ⟨_, rfl, OwNd_none _ _, hb1⟩
  | true =>
    have hM : Hid (dfM f = dualL f) := Lib.hid (by unfold dfM; rw [hvm]; rfl)
    have hC : Hid (dfC f = 0) := Lib.hid (by unfold dfC; rw [hvm]; rfl)
    rw [hM.out, hC.out]
    have HK := Lib.hid (validF_parts hvm).2.2.2
    go_enter Tryz.func17, Tryz.ntmps17
    go_wp2_with fail
    refine (ValidFormula_any _ f _ hn hls hT HV.out).mono ?_
    rw [hvm]
    rintro e w1 ⟨rfl, hb1⟩
    go_wp2_with fail
    refine (dual_any _ f _ hn HK.out (HV.out.below hb1)).mono ?_
    rintro e w2 ⟨u, rfl, hu, hb2⟩
    obtain ⟨a1, c1, rfl⟩ := hu.rd.slice
    have HU := Lib.hid hu
    have hz := hb1.size
    clear hu
    go_wp2_with fail
    go_ret2
    exact ⟨_, rfl, HU.out.mono hz, hb1.trans (hb2.mono hz)⟩
set_option maxRecDepth 100000 in
set_option maxHeartbeats 2000000 in
theorem l19Dual_any (v : Value) (f : List Nd) (w : World) (hn : f.length ≤ 1048576) (hk : ∀ i, i < f.length → inR (ndnth f i).kind 0 8 = true) (hv : RdNd w v f) :
    Calls Tryz.prog 27 #[v] w fun e w' => ∃ u, e = .returned u ∧ OwNd w' w.heap.size u (dualL f) ∧ Below w.heap.size w w' := by
  have HV := Lib.hid hv
  obtain ⟨a, cap, rfl⟩ := hv.slice
  clear hv
  have HK := Lib.hid hk
  clear hk
  obtain ⟨i0, hi, hz0, hz1, hz2⟩ := info_parts infoNd
  obtain ⟨n, hxn⟩ : ∃ n, n = f.length := ⟨_, rfl⟩
  rw [← hxn] at hn HV ⊢
  have Hxn := Lib.hid hxn
  clear hxn
  go_enter Tryz.func27, Tryz.ntmps27
  have hO : (w.alloc (.cells #[] 37)).ownsRow w.heap.size 37 4 (.slice (some ⟨w.heap.size, 0, none⟩) 0 0) 0 ((List.range (0 * 4)).map (ndc (dualL f))) :=
    ⟨rfl, Or.inr ⟨w.heap.size, 0, #[], rfl, Nat.le_refl _, by show (w.heap.push _)[w.heap.size]? = some _; simp, Nat.le_refl _, Nat.zero_le _, rfl, rfl⟩⟩
  have hb2 : Below w.heap.size w (w.alloc (.cells #[] 37)) := (Below.refl _ _).alloc (Nat.le_refl _) _
  go_wp2_with fail
  go_loopw [3, 4] (fun so si wr => ∃ k : Nat, k ≤ n ∧ si = .int .i64 k ∧ Hid (wr.ownsRow w.heap.size 37 4 so k ((List.range (k * 4)).map (ndc (dualL f)))) ∧ Below w.heap.size w wr)
    (fun _ si _ => n - (intOf si).toNat)
  case atStart => exact ⟨0, Nat.zero_le _, rfl, Lib.hid hO, hb2⟩
  case round =>
    clear hO hb2
    obtain ⟨k, hk, rfl, HO, hbl⟩ := hrel
    obtain ⟨ao, co, rfl⟩ := owned_slice HO.out
    by_cases hlt : k < n
    · have hkf : k < f.length := by rw [← Hxn.out]; exact hlt
      obtain ⟨b, o, rfl, hb, g0, g1, g2, g3⟩ := RdNd.cells HV.out hkf
      have q0 := (hbl.cell (by exact hb)).trans g0
      have q1 := (hbl.cell (by exact hb)).trans g1
      have q2 := (hbl.cell (by exact hb)).trans g2
      have q3 := (hbl.cell (by exact hb)).trans g3
      have hkd := HK.out k hkf
      obtain ⟨Y, hY⟩ : ∃ Y, Y = ndnth f k := ⟨_, rfl⟩
      rw [← hY] at q0 q1 q2 q3 hkd
      have HY := Lib.hid hY
      clear hY g0 g1 g2 g3
      have hblo := hbl.size
      go_wp2_with fail
      refine (l14Other_any _ _ hkd).mono ?_
      rintro e w' ⟨rfl, rfl⟩
      obtain ⟨D, hD⟩ : ∃ D, D = dualK Y.kind := ⟨_, rfl⟩
      rw [← hD]
      have HD := Lib.hid hD
      clear hD
      go_wp2_with (at_builtin; refine wpList_append_own_at _ rfl _ _ 24 rfl w.heap.size 37 i0 (.agg #[.int .i64 0, .int .i64 0, .string ByteArray.empty, .bool false]) 4 40 Tryz.underlying24 hi hz0 hz1 hz2 rfl (by decide) _ k _ rfl ((HO.out.alloc _).alloc _) ⟨wr.heap.size + 1, 0, none⟩ 1 1 [.int .i64 D, .int .i64 Y.var, .string Y.lab, .bool Y.neg] rfl rfl (new_row _ #[.int .i64 D, .int .i64 Y.var, .string Y.lab, .bool Y.neg] _ _ (by simp)) (by simp [Value.oneCell']) ?c2 ?c3 ?c4 ?_)
      case c2 => unfold maxLen; omega
      case c3 => omega
      case c4 => simp; omega
      intro v' w3 hown' hgrow hnil hloc
      have hO3 : Hid (w3.ownsRow w.heap.size 37 4 v' (k + 1) ((List.range ((k + 1) * 4)).map (ndc (dualL f)))) := Lib.hid (by
        have e : (List.range ((k + 1) * 4)).map (ndc (dualL f)) = (List.range (k * 4)).map (ndc (dualL f)) ++ [.int .i64 D, .int .i64 Y.var, .string Y.lab, .bool Y.neg] := by
          rw [show (k + 1) * 4 = k * 4 + 1 + 1 + 1 + 1 by omega, List.range_succ, List.range_succ, List.range_succ, List.range_succ]
          simp only [List.map_append, List.append_assoc, List.map_cons, List.map_nil, List.cons_append, List.nil_append]
          rw [show k * 4 = k * 4 + 0 from rfl, ndc_at _ k 0 (by decide), show k * 4 + 0 + 1 = k * 4 + 1 from rfl, ndc_at _ k 1 (by decide), show k * 4 + 0 + 1 + 1 = k * 4 + 2 from rfl, ndc_at _ k 2 (by decide), show k * 4 + 0 + 1 + 1 + 1 = k * 4 + 3 from rfl, ndc_at _ k 3 (by decide), ndnth_dual f k hkf, ← HY.out, HD.out]
          rfl
        rw [e]
        exact hown')
      have hbl3 : Below w.heap.size w w3 := ((hbl.alloc hblo _).alloc (by simp; omega) _).grown hgrow (by simp; omega) (fun j hj => (HO.out.lt j hj).1)
      clear hown' hgrow hnil hloc HO
      obtain ⟨aa, cc, rfl⟩ := owned_slice hO3.out
      go_wp2_with fail
      go_roundw
      case rel => exact ⟨k + 1, by omega, by go_num, hO3, hbl3⟩
      case measure => simp [intOf]; omega
    · obtain rfl : k = n := by omega
      have HR : Hid (OwNd wr w.heap.size (.slice ao k co) (dualL f)) := Lib.hid (by
        unfold OwNd
        rw [dualL_len, ← Hxn.out]
        exact ownsRow_ow HO.out _ fun i hi => by rw [List.getElem?_map, List.getElem?_range (by omega)]; rfl)
      go_wp2_with fail
      go_ret
      exact ⟨_, rfl, HR.out, hbl⟩
theorem spec_DualFormula_any (v : Value) (f : List Nd) (w : World) (hn : f.length ≤ 1048576) (hls : ∀ i, i < f.length → (ndnth f i).lab.size ≤ 1048576) (hv : RdNd w v f) :
    Calls Tryz.prog 16 #[v] w fun e w' => ∃ u, e = .returned (.tuple #[u, .int .i64 (dfC f)]) ∧ OwNd w' w.heap.size u (dfM f) ∧ Below w.heap.size w w' := by
  have HV := Lib.hid hv
  obtain ⟨a, cap, rfl⟩ := hv.slice
  clear hv
  cases hvm : validF f with
  | false =>
    have hM : Hid (dfM f = []) := Lib.hid (by unfold dfM; rw [hvm]; rfl)
    have hC : Hid (dfC f = 1) := Lib.hid (by unfold dfC; rw [hvm]; rfl)
    rw [hM.out, hC.out]
    go_enter Tryz.func16, Tryz.ntmps16
    go_wp2_with fail
    refine (l19Is_any _ f _ hn hls HV.out).mono ?_
    rw [hvm]
    rintro e w1 ⟨rfl, hb1⟩
    go_wp2_with fail
    go_ret2
    exact ⟨_, rfl, OwNd_none _ _, hb1⟩
  | true =>
    have hM : Hid (dfM f = dualL f) := Lib.hid (by unfold dfM; rw [hvm]; rfl)
    have hC : Hid (dfC f = 0) := Lib.hid (by unfold dfC; rw [hvm]; rfl)
    rw [hM.out, hC.out]
    have HK := Lib.hid (validF_parts hvm).2.2.2
    go_enter Tryz.func16, Tryz.ntmps16
    go_wp2_with fail
    refine (l19Is_any _ f _ hn hls HV.out).mono ?_
    rw [hvm]
    rintro e w1 ⟨rfl, hb1⟩
    go_wp2_with fail
    refine (l19Dual_any _ f _ hn HK.out (HV.out.below hb1)).mono ?_
    rintro e w2 ⟨u, rfl, hu, hb2⟩
    obtain ⟨a1, c1, rfl⟩ := hu.rd.slice
    have HU := Lib.hid hu
    have hz := hb1.size
    clear hu
    go_wp2_with fail
    go_ret2
    exact ⟨_, rfl, HU.out.mono hz, hb1.trans (hb2.mono hz)⟩
end Go.Proofs.YtbhkpnhlegiilaaGreatDoor
