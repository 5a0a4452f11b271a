/- Contracts: IsGuarded, of the program and of the reference. -/
import Derived.Test.YtmaadfoiaegdjaaGreatDoorProg
import Derived.Test.YtmaadfoiaegdjaaGreatDoorMem
import Derived.Test.YtmaadfoiaegdjaaGreatDoorMath
import Derived.Test.YtmaadfoiaegdjaaGreatDoorBasics
import Derived.Test.YtmaadfoiaegdjaaGreatDoorOpenI
import Derived.Test.YtmaadfoiaegdjaaGreatDoorHelpI
import Derived.Test.YtmaadfoiaegdjaaGreatDoorGrid
import Derived.Test.YtmaadfoiaegdjaaGreatDoorLab
import Derived.Test.YtmaadfoiaegdjaaGreatDoorDec
import Derived.Test.YtmaadfoiaegdjaaGreatDoorEnv
import Derived.Test.YtmaadfoiaegdjaaGreatDoorNode
import Derived.Test.YtmaadfoiaegdjaaGreatDoorNodeW
import Derived.Test.YtmaadfoiaegdjaaGreatDoorVMod
import Derived.Test.YtmaadfoiaegdjaaGreatDoorEnd
import Derived.Test.YtmaadfoiaegdjaaGreatDoorBind
import Derived.Test.YtmaadfoiaegdjaaGreatDoorVFor
import Derived.Test.YtmaadfoiaegdjaaGreatDoorConc
import Derived.Test.YtmaadfoiaegdjaaGreatDoorNds
import Derived.Test.YtmaadfoiaegdjaaGreatDoorFreq
import Derived.Test.YtmaadfoiaegdjaaGreatDoorInst
import Derived.Test.YtmaadfoiaegdjaaGreatDoorUnf
import Derived.WalkKit
import Derived.BigQuiet
import Derived.Maps.AppendAt
import Derived.Laws.OwnMore
import Derived.Lib.Hide
import Derived.Outline
set_option linter.unusedVariables false
set_option linter.unusedSimpArgs false
namespace Go.Proofs.YtmaadfoiaegdjaaGreatDoor
open Go.RowKit

def gdHit (f : List Nd) (k i : Nat) : Bool := isModal (ndnth f i).kind && decide (k < endN f i)
def gdAny (f : List Nd) (k lo : Nat) : Nat → Bool
  | 0 => false
  | d + 1 => gdAny f k lo d || gdHit f k (lo + d)
def gdLo (f : List Nd) (k : Nat) : Nat := (bindN f k + 1).toNat
def gdNode (f : List Nd) (k : Nat) : Bool := if (ndnth f k).kind = 6 then gdAny f k (gdLo f k) (k - gdLo f k) else true
def isG (f : List Nd) : Bool := validF f && decide (∀ k, k < f.length → gdNode f k = true)
theorem bindTo_bd (f : List Nd) (k : Nat) : ∀ j, -1 ≤ bindTo f k j ∧ bindTo f k j < j
  | 0 => by simp [bindTo]
  | i + 1 => by
    rw [bindTo]
    have := bindTo_bd f k i
    split <;> omega
theorem gdLo_bd (f : List Nd) (k : Nat) : (gdLo f k : Int) = bindN f k + 1 ∧ gdLo f k ≤ k := by
  have := bindTo_bd f k k
  unfold gdLo bindN
  omega
theorem isModal_two {k : Int} {a b : Bool} (h1 : (k == 4) = a) (h2 : (k == 5) = b) : isModal k = (a || b) := by
  unfold isModal
  rw [← h1, ← h2]
  rfl
set_option maxRecDepth 100000 in
set_option maxHeartbeats 4000000 in
theorem IsGuarded_any (v : Value) (f : List Nd) (w : World) (hn : f.length ≤ 1048576) (hls : ∀ i, i < f.length → (ndnth f i).lab.size ≤ 1048576) (hT : Env w) (hv : RdNd w v f) :
    Calls Tryz.prog 38 #[v] w fun e w' => e = .returned (.bool (isG f)) ∧ Below w.heap.size w w' := by
  have HV := Lib.hid hv
  obtain ⟨a, cap, rfl, hcap, hcm, _⟩ := hv
  unfold maxLen at hcm
  have hGe : Hid (isG f = (validF f && decide (∀ k, k < f.length → gdNode f k = true))) := Lib.hid rfl
  obtain ⟨n, hxn⟩ : ∃ n, n = f.length := ⟨_, rfl⟩
  rw [← hxn] at hcap HV ⊢
  have Hxn := Lib.hid hxn
  clear hxn
  have HT := Lib.hid hT
  clear hT
  cases hvm : validF f with
  | false =>
    have hX : Hid (isG f = false) := Lib.hid (by rw [hGe.out, hvm]; rfl)
    go_enter Tryz.func38, Tryz.ntmps38
    go_wp2_with fail
    refine (ValidFormula_any _ f _ hn hls HT.out HV.out).mono ?_
    rw [hvm]
    rintro e w1 ⟨rfl, hb1⟩
    go_wp2_with fail
    go_ret
    exact ⟨by rw [hX.out]; rfl, hb1⟩
  | true =>
  obtain ⟨hp1, hp2, hp3, hp4⟩ := validF_parts hvm
  have HS := Lib.hid hp3
  have HK := Lib.hid hp4
  have HNo : Hid (∀ k, k < f.length → gdNode f k = false → isG f = false) := Lib.hid (fun k hk h => by
    rw [hGe.out, decide_eq_false (fun h2 => by have := h2 k hk; rw [h] at this; cases this), Bool.and_false])
  have HYes : Hid ((∀ k, k < f.length → gdNode f k = true) → isG f = true) := Lib.hid (fun h => by rw [hGe.out, hvm, decide_eq_true h]; rfl)
  have hn30 : n ≤ 30 := by have := Hxn.out; omega
  clear hp3 hp4 hp1 hp2
  go_enter Tryz.func38, Tryz.ntmps38
  go_wp2_with fail
  refine (ValidFormula_any _ f _ hn hls HT.out HV.out).mono ?_
  rw [hvm]
  rintro e w1 ⟨rfl, hb1⟩
  have hbS := Lib.hid hb1
  clear hb1 hls
  go_wp2_with fail
  go_loopw [12] (fun si wr => ∃ k : Nat, k ≤ n ∧ si = .int .i64 k ∧ Hid (∀ i, i < k → gdNode f i = true) ∧ Below w.heap.size w wr) (fun si _ => n - (intOf si).toNat)
  case atStart => exact ⟨0, Nat.zero_le _, rfl, Lib.hid (fun i h => absurd h (by omega)), hbS.out⟩
  case round =>
    clear hbS
    obtain ⟨k, hk, rfl, HL, hbl⟩ := hrel
    by_cases hlt : k < n
    · have hkf : k < f.length := by rw [← Hxn.out]; exact hlt
      obtain ⟨b, o, rfl, hb, g0, g1, g2, g3⟩ := RdNd.cells HV.out hkf
      have q0 := (hbl.cell (by exact hb)).trans g0
      have q1 := (hbl.cell (by exact hb)).trans g1
      have q2 := (hbl.cell (by exact hb)).trans g2
      have q3 := (hbl.cell (by exact hb)).trans g3
      have HGd : Hid (gdNode f k = if (ndnth f k).kind = 6 then gdAny f k (gdLo f k) (k - gdLo f k) else true) := Lib.hid rfl
      have HNx : Hid (gdNode f k = true → ∀ i, i < k + 1 → gdNode f i = true) := Lib.hid fun h => next_all HL.out h
      have HNk := Lib.hid (HNo.out k hkf)
      obtain ⟨Y, hY⟩ : ∃ Y, Y = ndnth f k := ⟨_, rfl⟩
      rw [← hY] at q0 q1 q2 q3 HGd
      clear hY g0 g1 g2 g3
      obtain ⟨hlo1, hlo2⟩ := gdLo_bd f k
      obtain ⟨lo, hlo⟩ : ∃ lo, lo = gdLo f k := ⟨_, rfl⟩
      rw [← hlo] at hlo1 hlo2 HGd
      obtain ⟨r, hr⟩ : ∃ r, r = bindN f k := ⟨_, rfl⟩
      rw [← hr] at hlo1
      have Hr := Lib.hid hr
      clear hr hlo
      obtain ⟨cs, hcs⟩ : ∃ cs : Array Value, cs = #[.int .i64 Y.kind, .int .i64 Y.var, .string Y.lab, .bool Y.neg] := ⟨_, rfl⟩
      have hbA : Below wr.heap.size wr (wr.alloc (.cells cs 49)) := (Below.refl _ _).alloc (Nat.le_refl _) _
      rw [hcs] at hbA
      clear hcs
      have hblA := below_trans' hbl hbA
      clear hbA
      by_cases h6 : Y.kind = 6
      · have hkb : (Y.kind != 6) = false := by simpa using h6
        rw [if_pos h6] at HGd
        clear h6
        go_wp2_with fail
        refine (binder_any _ f k _ hn HS.out hkf (HV.out.below hblA)).mono ?_
        rw [← Hr.out]
        rintro e w2 ⟨rfl, hb2⟩
        have hbl2 := below_trans' hblA hb2
        have hwr1 : IntKind.i64.wrap (r + 1) = (lo : Int) := by rw [IntKind.wrap_i64]; omega
        clear hlo1
        clear hb2 hblA hbl q0 q1 q2 q3
        go_wp2_with fail
        go_loopw [5, 6] (fun sg si wr => ∃ d : Nat, lo + d ≤ k ∧ si = .int .i64 ((lo + d : Nat) : Int) ∧ sg = .bool (gdAny f k lo d) ∧ Below w.heap.size w wr) (fun _ si _ => k - (intOf si).toNat)
        case atStart => exact ⟨0, by omega, by simp, rfl, hbl2⟩
        case round =>
          clear hbl2
          obtain ⟨d, hd, rfl, rfl, hbl⟩ := hrel
          obtain ⟨i, hi⟩ : ∃ i, i = lo + d := ⟨_, rfl⟩
          have HA : Hid (gdAny f k lo (d + 1) = (gdAny f k lo d || gdHit f k i)) := Lib.hid (by rw [hi]; rfl)
          obtain ⟨G, hG⟩ : ∃ G, G = gdAny f k lo d := ⟨_, rfl⟩
          rw [← hG] at HA
          rw [← hi, ← hG]
          have hdk : i = k ∨ i < k := by omega
          have hid : i ≤ k := by omega
          have Hi := Lib.hid hi
          have hfd : i = k → d = k - lo := by omega
          have Hfd := Lib.hid hfd
          have hd2 : i < k → lo + (d + 1) ≤ k := by omega
          have Hd2 := Lib.hid hd2
          clear hi hdk hfd hd2
          by_cases hik : i < k
          · have hif : i < f.length := by omega
            have hin : i < n := by omega
            obtain ⟨b', o', he, hb', g0, g1, g2, g3⟩ := RdNd.cells HV.out hif
            cases he
            have q0 := (hbl.cell (by exact hb')).trans g0
            have q1 := (hbl.cell (by exact hb')).trans g1
            have q2 := (hbl.cell (by exact hb')).trans g2
            have q3 := (hbl.cell (by exact hb')).trans g3
            have HHt : Hid (gdHit f k i = (isModal (ndnth f i).kind && decide (k < endN f i))) := Lib.hid rfl
            obtain ⟨Z, hZ⟩ : ∃ Z, Z = ndnth f i := ⟨_, rfl⟩
            obtain ⟨E, hE⟩ : ∃ E, E = endN f i := ⟨_, rfl⟩
            have hel := endN_le f i
            rw [← hE] at hel
            rw [← hZ] at q0 q1 q2 q3 HHt
            rw [← hE] at HHt
            have HE := Lib.hid hE
            clear hZ hE g0 g1 g2 g3 hG
            cases G with
            | true =>
              have HA2 : Hid (gdAny f k lo (d + 1) = true) := Lib.hid (by rw [HA.out]; rfl)
              go_wp2_with fail
              go_roundw
              case rel => exact ⟨d + 1, Hd2.out hik, by rw [Hi.out]; go_num, by rw [HA2.out], hbl⟩
              case measure => simp [intOf] <;> omega
            | false =>
              cases hm : isModal Z.kind with
              | false =>
                have HA2 : Hid (gdAny f k lo (d + 1) = false) := Lib.hid (by rw [HA.out, HHt.out, hm]; rfl)
                go_wp2_with fail
                refine (isModality_any Z.kind _ _ _ _).mono ?_
                rw [hm]
                rintro e w3 ⟨rfl, hb3⟩
                have hbl3 := below_trans' hbl hb3
                go_wp2_with fail
                go_roundw
                case rel => exact ⟨d + 1, Hd2.out hik, by rw [Hi.out]; go_num, by rw [HA2.out], hbl3⟩
                case measure => simp [intOf] <;> omega
              | true =>
                by_cases hke : k < E
                · have HA2 : Hid (gdAny f k lo (d + 1) = true) := Lib.hid (by rw [HA.out, HHt.out, hm, decide_eq_true hke]; rfl)
                  have hkd : decide ((k : Int) < (E : Int)) = true := decide_eq_true (by omega)
                  go_wp2_with fail
                  refine (isModality_any Z.kind _ _ _ _).mono ?_
                  rw [hm]
                  rintro e w3 ⟨rfl, hb3⟩
                  have hbl3 := below_trans' hbl hb3
                  go_wp2_with fail
                  refine (formulaEnd_e _ f i E _ HE.out hn HS.out hif (HV.out.below hbl3)).mono ?_
                  rintro e w4 ⟨rfl, hb4⟩
                  have hbl4 := below_trans' hbl3 hb4
                  go_wp2_with fail
                  go_roundw
                  case rel => exact ⟨d + 1, Hd2.out hik, by rw [Hi.out]; go_num, by rw [HA2.out], hbl4⟩
                  case measure => simp [intOf] <;> omega
                · have HA2 : Hid (gdAny f k lo (d + 1) = false) := Lib.hid (by rw [HA.out, HHt.out, hm, decide_eq_false hke]; rfl)
                  have hkd : decide ((k : Int) < (E : Int)) = false := decide_eq_false (by omega)
                  go_wp2_with fail
                  refine (isModality_any Z.kind _ _ _ _).mono ?_
                  rw [hm]
                  rintro e w3 ⟨rfl, hb3⟩
                  have hbl3 := below_trans' hbl hb3
                  go_wp2_with fail
                  refine (formulaEnd_e _ f i E _ HE.out hn HS.out hif (HV.out.below hbl3)).mono ?_
                  rintro e w4 ⟨rfl, hb4⟩
                  have hbl4 := below_trans' hbl3 hb4
                  go_wp2_with fail
                  go_roundw
                  case rel => exact ⟨d + 1, Hd2.out hik, by rw [Hi.out]; go_num, by rw [HA2.out], hbl4⟩
                  case measure => simp [intOf] <;> omega
          · have hfin : d = k - lo := Hfd.out (by omega)
            have HGd2 : Hid (gdNode f k = G) := Lib.hid (by rw [HGd.out, ← hfin, ← hG])
            obtain rfl : i = k := by omega
            clear hG
            cases G with
            | true =>
              have HL2 := Lib.hid (HNx.out HGd2.out)
              go_wp2_with fail
              go_roundw
              case rel => exact ⟨i + 1, by omega, by go_num, HL2, hbl⟩
              case measure => simp [intOf] <;> omega
            | false =>
              have HX := Lib.hid (HNk.out HGd2.out)
              go_wp2_with fail
              go_ret
              exact ⟨by rw [HX.out]; rfl, hbl⟩
      · have hkb : (Y.kind != 6) = true := by simpa using h6
        rw [if_neg h6] at HGd
        have HL2 := Lib.hid (HNx.out HGd.out)
        clear h6
        go_wp2_with fail
        go_roundw
        case rel => exact ⟨k + 1, by omega, by go_num, HL2, hblA⟩
        case measure => simp [intOf] <;> omega
    · obtain rfl : k = n := by omega
      have HX : Hid (isG f = true) := Lib.hid (HYes.out fun i hi => HL.out i (by rw [Hxn.out]; exact hi))
      go_wp2_with fail
      go_ret
      exact ⟨by rw [HX.out]; rfl, hbl⟩
set_option maxRecDepth 100000 in
set_option maxHeartbeats 4000000 in
theorem l19Guarded_any (v : Value) (f : List Nd) (w : World) (hn : f.length ≤ 1048576) (hvm : validF f = true) (hv : RdNd w v f) :
    Calls Tryz.prog 81 #[v] w fun e w' => e = .returned (.bool (isG f)) ∧ Below w.heap.size w w' := by
  have HV := Lib.hid hv
  obtain ⟨a, cap, rfl, hcap, hcm, _⟩ := hv
  unfold maxLen at hcm
  have hGe : Hid (isG f = (validF f && decide (∀ k, k < f.length → gdNode f k = true))) := Lib.hid rfl
  obtain ⟨n, hxn⟩ : ∃ n, n = f.length := ⟨_, rfl⟩
  rw [← hxn] at hcap HV ⊢
  have Hxn := Lib.hid hxn
  clear hxn
  obtain ⟨hp1, hp2, hp3, hp4⟩ := validF_parts hvm
  have HS := Lib.hid hp3
  have HK := Lib.hid hp4
  have HNo : Hid (∀ k, k < f.length → gdNode f k = false → isG f = false) := Lib.hid (fun k hk h => by
    rw [hGe.out, decide_eq_false (fun h2 => by have := h2 k hk; rw [h] at this; cases this), Bool.and_false])
  have HYes : Hid ((∀ k, k < f.length → gdNode f k = true) → isG f = true) := Lib.hid (fun h => by rw [hGe.out, hvm, decide_eq_true h]; rfl)
  have hn30 : n ≤ 30 := by have := Hxn.out; omega
  clear hp3 hp4 hp1 hp2
  go_enter Tryz.func81, Tryz.ntmps81
  have hbS : Hid (Below w.heap.size w w) := Lib.hid (Below.refl _ _)
  go_wp2_with fail
  go_loopw [3] (fun si wr => ∃ k : Nat, k ≤ n ∧ si = .int .i64 k ∧ Hid (∀ i, i < k → gdNode f i = true) ∧ Below w.heap.size w wr) (fun si _ => n - (intOf si).toNat)
  case atStart => exact ⟨0, Nat.zero_le _, rfl, Lib.hid (fun i h => absurd h (by omega)), hbS.out⟩
  case round =>
    clear hbS
    obtain ⟨k, hk, rfl, HL, hbl⟩ := hrel
    by_cases hlt : k < n
    · have hkf : k < f.length := by rw [← Hxn.out]; exact hlt
      obtain ⟨b, o, rfl, hb, g0, g1, g2, g3⟩ := RdNd.cells HV.out hkf
      have q0 := (hbl.cell (by exact hb)).trans g0
      have q1 := (hbl.cell (by exact hb)).trans g1
      have q2 := (hbl.cell (by exact hb)).trans g2
      have q3 := (hbl.cell (by exact hb)).trans g3
      have HGd : Hid (gdNode f k = if (ndnth f k).kind = 6 then gdAny f k (gdLo f k) (k - gdLo f k) else true) := Lib.hid rfl
      have HNx : Hid (gdNode f k = true → ∀ i, i < k + 1 → gdNode f i = true) := Lib.hid fun h => next_all HL.out h
      have HNk := Lib.hid (HNo.out k hkf)
      obtain ⟨Y, hY⟩ : ∃ Y, Y = ndnth f k := ⟨_, rfl⟩
      rw [← hY] at q0 q1 q2 q3 HGd
      clear hY g0 g1 g2 g3
      obtain ⟨hlo1, hlo2⟩ := gdLo_bd f k
      obtain ⟨lo, hlo⟩ : ∃ lo, lo = gdLo f k := ⟨_, rfl⟩
      rw [← hlo] at hlo1 hlo2 HGd
      obtain ⟨r, hr⟩ : ∃ r, r = bindN f k := ⟨_, rfl⟩
      rw [← hr] at hlo1
      have Hr := Lib.hid hr
      clear hr hlo
      have hblA := hbl
      by_cases h6 : Y.kind = 6
      · have hkb : (Y.kind != 6) = false := by simpa using h6
        rw [if_pos h6] at HGd
        clear h6
        go_wp2_with fail
        refine (l19Binder_any _ f k _ hn HS.out HK.out hkf (HV.out.below hblA)).mono ?_
        rw [← Hr.out]
        rintro e w2 ⟨rfl, hb2⟩
        have hbl2 := below_trans' hblA hb2
        have hwr1 : IntKind.i64.wrap (r + 1) = (lo : Int) := by rw [IntKind.wrap_i64]; omega
        clear hlo1
        clear hb2 hblA hbl q0 q1 q2 q3
        go_wp2_with fail
        go_loopw [4, 5] (fun sg si wr => ∃ d : Nat, lo + d ≤ k ∧ si = .int .i64 ((lo + d : Nat) : Int) ∧ sg = .bool (gdAny f k lo d) ∧ Below w.heap.size w wr) (fun _ si _ => k - (intOf si).toNat)
        case atStart => exact ⟨0, by omega, by simp, rfl, hbl2⟩
        case round =>
          clear hbl2
          obtain ⟨d, hd, rfl, rfl, hbl⟩ := hrel
          obtain ⟨i, hi⟩ : ∃ i, i = lo + d := ⟨_, rfl⟩
          have HA : Hid (gdAny f k lo (d + 1) = (gdAny f k lo d || gdHit f k i)) := Lib.hid (by rw [hi]; rfl)
          obtain ⟨G, hG⟩ : ∃ G, G = gdAny f k lo d := ⟨_, rfl⟩
          rw [← hG] at HA
          rw [← hi, ← hG]
          have hdk : i = k ∨ i < k := by omega
          have hid : i ≤ k := by omega
          have Hi := Lib.hid hi
          have hfd : i = k → d = k - lo := by omega
          have Hfd := Lib.hid hfd
          have hd2 : i < k → lo + (d + 1) ≤ k := by omega
          have Hd2 := Lib.hid hd2
          clear hi hdk hfd hd2
          by_cases hik : i < k
          · have hif : i < f.length := by omega
            have hin : i < n := by omega
            obtain ⟨b', o', he, hb', g0, g1, g2, g3⟩ := RdNd.cells HV.out hif
            cases he
            have q0 := (hbl.cell (by exact hb')).trans g0
            have q1 := (hbl.cell (by exact hb')).trans g1
            have q2 := (hbl.cell (by exact hb')).trans g2
            have q3 := (hbl.cell (by exact hb')).trans g3
            have HHt : Hid (gdHit f k i = (isModal (ndnth f i).kind && decide (k < endN f i))) := Lib.hid rfl
            obtain ⟨Z, hZ⟩ : ∃ Z, Z = ndnth f i := ⟨_, rfl⟩
            obtain ⟨E, hE⟩ : ∃ E, E = endN f i := ⟨_, rfl⟩
            have hel := endN_le f i
            rw [← hE] at hel
            rw [← hZ] at q0 q1 q2 q3 HHt
            rw [← hE] at HHt
            have HE := Lib.hid hE
            clear hZ hE g0 g1 g2 g3 hG
            obtain ⟨A4, h4⟩ : ∃ A, (Z.kind == 4) = A := ⟨_, rfl⟩
            obtain ⟨A5, h5⟩ : ∃ A, (Z.kind == 5) = A := ⟨_, rfl⟩
            have hmo := isModal_two h4 h5
            have hHt : Hid (gdHit f k i = ((A4 || A5) && decide (k < E))) := Lib.hid (by rw [HHt.out, hmo])
            clear hmo HHt
            cases G with
            | true =>
              have HA2 : Hid (gdAny f k lo (d + 1) = true) := Lib.hid (by rw [HA.out]; rfl)
              cases A4 <;> cases A5
              · go_wp2_with fail
                go_roundw
                case rel => exact ⟨d + 1, Hd2.out hik, by rw [Hi.out]; go_num, by rw [HA2.out], hbl⟩
                case measure => simp [intOf] <;> omega
              · go_wp2_with fail
                go_roundw
                case rel => exact ⟨d + 1, Hd2.out hik, by rw [Hi.out]; go_num, by rw [HA2.out], hbl⟩
                case measure => simp [intOf] <;> omega
              · go_wp2_with fail
                go_roundw
                case rel => exact ⟨d + 1, Hd2.out hik, by rw [Hi.out]; go_num, by rw [HA2.out], hbl⟩
                case measure => simp [intOf] <;> omega
              · go_wp2_with fail
                go_roundw
                case rel => exact ⟨d + 1, Hd2.out hik, by rw [Hi.out]; go_num, by rw [HA2.out], hbl⟩
                case measure => simp [intOf] <;> omega
            | false =>
              by_cases hke : k < E
              · have hkd : decide ((k : Int) < (E : Int)) = true := decide_eq_true (by omega)
                have HA3 : Hid (gdAny f k lo (d + 1) = (A4 || A5)) := Lib.hid (by rw [HA.out, hHt.out, decide_eq_true hke]; simp)
                cases A4 <;> cases A5
                · have HA2 : Hid (gdAny f k lo (d + 1) = false) := HA3
                  go_wp2_with fail
                  go_roundw
                  case rel => exact ⟨d + 1, Hd2.out hik, by rw [Hi.out]; go_num, by rw [HA2.out], hbl⟩
                  case measure => simp [intOf] <;> omega
                · have HA2 : Hid (gdAny f k lo (d + 1) = true) := HA3
                  go_wp2_with fail
                  refine (l19End_any _ f i _ hn HS.out HK.out hif (HV.out.below hbl)).mono ?_
                  rw [← HE.out]
                  rintro e w4 ⟨rfl, rfl⟩
                  go_wp2_with fail
                  go_roundw
                  case rel => exact ⟨d + 1, Hd2.out hik, by rw [Hi.out]; go_num, by rw [HA2.out], hbl⟩
                  case measure => simp [intOf] <;> omega
                · have HA2 : Hid (gdAny f k lo (d + 1) = true) := HA3
                  go_wp2_with fail
                  refine (l19End_any _ f i _ hn HS.out HK.out hif (HV.out.below hbl)).mono ?_
                  rw [← HE.out]
                  rintro e w4 ⟨rfl, rfl⟩
                  go_wp2_with fail
                  go_roundw
                  case rel => exact ⟨d + 1, Hd2.out hik, by rw [Hi.out]; go_num, by rw [HA2.out], hbl⟩
                  case measure => simp [intOf] <;> omega
                · have HA2 : Hid (gdAny f k lo (d + 1) = true) := HA3
                  go_wp2_with fail
                  refine (l19End_any _ f i _ hn HS.out HK.out hif (HV.out.below hbl)).mono ?_
                  rw [← HE.out]
                  rintro e w4 ⟨rfl, rfl⟩
                  go_wp2_with fail
                  go_roundw
                  case rel => exact ⟨d + 1, Hd2.out hik, by rw [Hi.out]; go_num, by rw [HA2.out], hbl⟩
                  case measure => simp [intOf] <;> omega
              · have hkd : decide ((k : Int) < (E : Int)) = false := decide_eq_false (by omega)
                have HA2 : Hid (gdAny f k lo (d + 1) = false) := Lib.hid (by rw [HA.out, hHt.out, decide_eq_false hke, Bool.and_false]; rfl)
                cases A4 <;> cases A5
                · go_wp2_with fail
                  go_roundw
                  case rel => exact ⟨d + 1, Hd2.out hik, by rw [Hi.out]; go_num, by rw [HA2.out], hbl⟩
                  case measure => simp [intOf] <;> omega
                · go_wp2_with fail
                  refine (l19End_any _ f i _ hn HS.out HK.out hif (HV.out.below hbl)).mono ?_
                  rw [← HE.out]
                  rintro e w4 ⟨rfl, rfl⟩
                  go_wp2_with fail
                  go_roundw
                  case rel => exact ⟨d + 1, Hd2.out hik, by rw [Hi.out]; go_num, by rw [HA2.out], hbl⟩
                  case measure => simp [intOf] <;> omega
                · go_wp2_with fail
                  refine (l19End_any _ f i _ hn HS.out HK.out hif (HV.out.below hbl)).mono ?_
                  rw [← HE.out]
                  rintro e w4 ⟨rfl, rfl⟩
                  go_wp2_with fail
                  go_roundw
                  case rel => exact ⟨d + 1, Hd2.out hik, by rw [Hi.out]; go_num, by rw [HA2.out], hbl⟩
                  case measure => simp [intOf] <;> omega
                · go_wp2_with fail
                  refine (l19End_any _ f i _ hn HS.out HK.out hif (HV.out.below hbl)).mono ?_
                  rw [← HE.out]
                  rintro e w4 ⟨rfl, rfl⟩
                  go_wp2_with fail
                  go_roundw
                  case rel => exact ⟨d + 1, Hd2.out hik, by rw [Hi.out]; go_num, by rw [HA2.out], hbl⟩
                  case measure => simp [intOf] <;> omega
          · have hfin : d = k - lo := Hfd.out (by omega)
            have HGd2 : Hid (gdNode f k = G) := Lib.hid (by rw [HGd.out, ← hfin, ← hG])
            obtain rfl : i = k := by omega
            clear hG
            cases G with
            | true =>
              have HL2 := Lib.hid (HNx.out HGd2.out)
              go_wp2_with fail
              go_roundw
              case rel => exact ⟨i + 1, by omega, by go_num, HL2, hbl⟩
              case measure => simp [intOf] <;> omega
            | false =>
              have HX := Lib.hid (HNk.out HGd2.out)
              go_wp2_with fail
              go_ret
              exact ⟨by rw [HX.out]; rfl, hbl⟩
      · have hkb : (Y.kind != 6) = true := by simpa using h6
        rw [if_neg h6] at HGd
        have HL2 := Lib.hid (HNx.out HGd.out)
        clear h6
        go_wp2_with fail
        go_roundw
        case rel => exact ⟨k + 1, by omega, by go_num, HL2, hblA⟩
        case measure => simp [intOf] <;> omega
    · obtain rfl : k = n := by omega
      have HX : Hid (isG f = true) := Lib.hid (HYes.out fun i hi => HL.out i (by rw [Hxn.out]; exact hi))
      go_wp2_with fail
      go_ret
      exact ⟨by rw [HX.out]; rfl, hbl⟩
theorem spec_IsGuarded_any (v : Value) (f : List Nd) (w : World) (hn : f.length ≤ 1048576) (hls : ∀ i, i < f.length → (ndnth f i).lab.size ≤ 1048576) (hv : RdNd w v f) :
    Calls Tryz.prog 37 #[v] w fun e w' => e = .returned (.bool (isG f)) ∧ Below w.heap.size w w' := by
  have HV := Lib.hid hv
  obtain ⟨a, cap, rfl⟩ := hv.slice
  clear hv
  cases hvm : validF f with
  | false =>
    have hX : Hid (isG f = false) := Lib.hid (by unfold isG; rw [hvm]; rfl)
    go_enter Tryz.func37, Tryz.ntmps37
    go_wp2_with fail
    refine (l19Is_any _ f _ hn hls HV.out).mono ?_
    rw [hvm]
    rintro e w1 ⟨rfl, hb1⟩
    go_wp2_with fail
    go_ret
    exact ⟨by rw [hX.out]; rfl, hb1⟩
  | true =>
    go_enter Tryz.func37, Tryz.ntmps37
    go_wp2_with fail
    refine (l19Is_any _ f _ hn hls HV.out).mono ?_
    rw [hvm]
    rintro e w1 ⟨rfl, hb1⟩
    go_wp2_with fail
    refine (l19Guarded_any _ f _ hn hvm (HV.out.below hb1)).mono ?_
    rintro e w2 ⟨rfl, hb2⟩
    go_wp2_with fail
    go_ret
    exact ⟨by simp, below_trans' hb1 hb2⟩
end Go.Proofs.YtmaadfoiaegdjaaGreatDoor
