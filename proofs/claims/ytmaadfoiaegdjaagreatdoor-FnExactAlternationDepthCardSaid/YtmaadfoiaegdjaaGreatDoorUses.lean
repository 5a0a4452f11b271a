/- Contracts: AlternationDepth, of the program and of the reference. -/
import Derived.Test.YtmaadfoiaegdjaaGreatDoorProg
import Derived.Test.YtmaadfoiaegdjaaGreatDoorMem
import Derived.Test.YtmaadfoiaegdjaaGreatDoorMath
import Derived.Test.YtmaadfoiaegdjaaGreatDoorBasics
import Derived.Test.YtmaadfoiaegdjaaGreatDoorOpenI
import Derived.Test.YtmaadfoiaegdjaaGreatDoorHelpI
import Derived.Test.YtmaadfoiaegdjaaGreatDoorGrid
import Derived.Test.YtmaadfoiaegdjaaGreatDoorLab
import Derived.Test.YtmaadfoiaegdjaaGreatDoorDec
import Derived.Test.YtmaadfoiaegdjaaGreatDoorEnv
import Derived.Test.YtmaadfoiaegdjaaGreatDoorNode
import Derived.Test.YtmaadfoiaegdjaaGreatDoorNodeW
import Derived.Test.YtmaadfoiaegdjaaGreatDoorVMod
import Derived.Test.YtmaadfoiaegdjaaGreatDoorEnd
import Derived.Test.YtmaadfoiaegdjaaGreatDoorBind
import Derived.Test.YtmaadfoiaegdjaaGreatDoorVFor
import Derived.Test.YtmaadfoiaegdjaaGreatDoorConc
import Derived.Test.YtmaadfoiaegdjaaGreatDoorNds
import Derived.Test.YtmaadfoiaegdjaaGreatDoorFreq
import Derived.Test.YtmaadfoiaegdjaaGreatDoorInst
import Derived.Test.YtmaadfoiaegdjaaGreatDoorUnf
import Derived.WalkKit
import Derived.BigRegion
import Derived.Deep.RegionHeld3
import Derived.StillTailTactics
import Derived.Deep.QuietTactic
import Derived.BigQuiet
import Derived.Maps.AppendAt
import Derived.Laws.OwnMore
import Derived.Lib.Hide
import Derived.Outline
set_option linter.unusedVariables false
set_option linter.unusedSimpArgs false
namespace Go.Proofs.YtmaadfoiaegdjaaGreatDoor
open Go.RowKit

def usAt (f : List Nd) (x i : Nat) : Bool := decide ((ndnth f i).kind = 6) && decide (bindN f i = (x : Int))
def usTo (f : List Nd) (x k : Nat) : Nat → Bool
  | 0 => false
  | d + 1 => usTo f x k d || usAt f x (k + 1 + d)
def usesB (f : List Nd) (k x : Nat) : Bool := usTo f x k (endN f k - (k + 1))
theorem usTo_mono {f : List Nd} {x k d : Nat} (h : usTo f x k d = true) : ∀ q, d ≤ q → usTo f x k q = true := by
  intro q hq
  induction q with
  | zero => obtain rfl : d = 0 := by omega
            exact h
  | succ q ih =>
    by_cases e : d = q + 1
    · rw [← e]; exact h
    · rw [usTo, ih (by omega)]; rfl
def alC (f : List Nd) (k i : Nat) : Bool := isFix (ndnth f i).kind && decide ((ndnth f i).kind ≠ (ndnth f k).kind) && usesB f i k
def alTo (g : Nat → Nat) (f : List Nd) (k : Nat) : Nat → Nat
  | 0 => 0
  | d + 1 => if alC f k (k + 1 + d) = true then max (alTo g f k d) (g (k + 1 + d)) else alTo g f k d
def altF (f : List Nd) : Nat → Nat → Nat
  | 0, _ => 0
  | N + 1, k => 1 + alTo (altF f N) f k (endN f k - (k + 1))
theorem alTo_le {g : Nat → Nat} {f : List Nd} {k B : Nat} (h : ∀ i, g i ≤ B) : ∀ d, alTo g f k d ≤ B
  | 0 => Nat.zero_le _
  | d + 1 => by
    rw [alTo]
    have := alTo_le (f := f) (k := k) h d
    have := h (k + 1 + d)
    split <;> omega
theorem altF_le (f : List Nd) : ∀ N k, altF f N k ≤ N
  | 0, _ => Nat.le_refl _
  | N + 1, k => by
    rw [altF]
    have := alTo_le (f := f) (k := k) (altF_le f N) (endN f k - (k + 1))
    omega
def adTo (f : List Nd) : Nat → Nat
  | 0 => 0
  | k + 1 => if isFix (ndnth f k).kind = true then max (adTo f k) (altF f f.length k) else adTo f k
theorem adTo_le (f : List Nd) : ∀ k, adTo f k ≤ f.length
  | 0 => Nat.zero_le _
  | k + 1 => by
    rw [adTo]
    have := adTo_le f k
    have := altF_le f f.length k
    split <;> omega
def adE (f : List Nd) : Nat := if validF f = true then adTo f f.length else 0
def adC (f : List Nd) : Int := if validF f = true then 0 else 1
set_option maxRecDepth 100000 in
set_option maxHeartbeats 2000000 in
theorem uses_any (v : Value) (f : List Nd) (k x : Nat) (w : World) (hn : f.length ≤ 1048576) (hs : shapeN f = true) (hkf : k < f.length) (hx : x < 1048576) (hv : RdNd w v f) :
    Calls Tryz.prog 117 #[v, .int .i64 k, .int .i64 x] w fun e w' => e = .returned (.bool (usesB f k x)) ∧ Below w.heap.size w w' := by
  have HV := Lib.hid hv
  have HS := Lib.hid hs
  obtain ⟨a, cap, rfl, hcap, hcm, _⟩ := hv
  unfold maxLen at hcm
  obtain ⟨n, hxn⟩ : ∃ n, n = f.length := ⟨_, rfl⟩
  obtain ⟨E, hE⟩ : ∃ E, E = endN f k := ⟨_, rfl⟩
  have hel := endN_le f k
  rw [← hE, ← hxn] at hel
  have hU : Hid (usesB f k x = usTo f x k (E - (k + 1))) := Lib.hid (by rw [hE]; rfl)
  rw [← hxn] at hcap HV
  rw [← hxn]
  have Hxn := Lib.hid hxn
  have HE := Lib.hid hE
  have hkn : k < n := by omega
  have hnm : n ≤ 1048576 := by omega
  clear hxn hE hs
  go_enter Tryz.func117, Tryz.ntmps117
  go_wp2_with fail
  go_loopw [7] (fun si wr => ∃ d : Nat, d ≤ E - (k + 1) ∧ si = .int .i64 ((k + 1 + d : Nat) : Int) ∧ Hid (usTo f x k d = false) ∧ Below w.heap.size w wr) (fun si _ => E - (intOf si).toNat)
  case atStart => exact ⟨0, Nat.zero_le _, by simp, Lib.hid rfl, Below.refl _ _⟩
  case round =>
    obtain ⟨d, hd, rfl, HL, hbl⟩ := hrel
    obtain ⟨i, hi⟩ : ∃ i, i = k + 1 + d := ⟨_, rfl⟩
    rw [← hi]
    have hd2 : i < E → d + 1 ≤ E - (k + 1) := by omega
    have hd3 : ¬ i < E → d = E - (k + 1) := by omega
    have Hd2 := Lib.hid hd2
    have Hd3 := Lib.hid hd3
    have HA : Hid (usTo f x k (d + 1) = (usTo f x k d || usAt f x i)) := Lib.hid (by rw [hi]; rfl)
    have HP : Hid (usAt f x i = (decide ((ndnth f i).kind = 6) && decide (bindN f i = (x : Int)))) := Lib.hid rfl
    have hi1 : i + 1 = k + 1 + (d + 1) := by omega
    have Hi1 := Lib.hid hi1
    have him : i ≤ 1048577 + E := by omega
    clear hi hd2 hd3 hd hi1
    by_cases hiE : i < E
    · have hif : i < f.length := by have := Hxn.out; omega
      have hin : i < n := by omega
      obtain ⟨b, o, rfl, hb, g0, g1, g2, g3⟩ := RdNd.cells HV.out hif
      have hid : decide ((i : Int) < (E : Int)) = true := decide_eq_true (by omega)
      obtain ⟨Y, hY⟩ : ∃ Y, Y = ndnth f i := ⟨_, rfl⟩
      rw [← hY] at g0 HP
      clear hY g1 g2 g3
      by_cases h6 : Y.kind = 6
      · have hkb : (Y.kind == 6) = true := by simpa using h6
        obtain ⟨r, hr⟩ : ∃ r, r = bindN f i := ⟨_, rfl⟩
        rw [← hr] at HP
        have Hr := Lib.hid hr
        have HP2 : Hid (usAt f x i = decide (r = (x : Int))) := Lib.hid (by rw [HP.out, decide_eq_true h6]; rfl)
        clear h6 hr
        by_cases hrx : r = (x : Int)
        · have hrb : (r == (x : Int)) = true := by simpa using hrx
          have HX : Hid (usesB f k x = true) := Lib.hid (by rw [hU.out]; exact usTo_mono (d := d + 1) (by rw [HA.out, HP2.out, decide_eq_true hrx, Bool.or_true]) _ (Hd2.out hiE))
          clear hrx
          go_wp2_with fail
          refine (formulaEnd_e _ f k E _ HE.out hn HS.out hkf (HV.out.below hbl)).mono ?_
          rintro e w1 ⟨rfl, hb1⟩
          have hbl1 := below_trans' hbl hb1
          have q0 := (hbl1.cell (by exact hb)).trans g0
          go_wp2_with fail
          refine (binder_any _ f i _ hn HS.out hif (HV.out.below hbl1)).mono ?_
          rw [← Hr.out]
          rintro e w2 ⟨rfl, hb2⟩
          have hbl2 := below_trans' hbl1 hb2
          go_wp2_with fail
          go_ret
          exact ⟨by rw [HX.out]; rfl, hbl2⟩
        · have hrb : (r == (x : Int)) = false := by simpa using hrx
          have HL2 : Hid (usTo f x k (d + 1) = false) := Lib.hid (by rw [HA.out, HL.out, HP2.out, decide_eq_false hrx]; rfl)
          clear hrx
          go_wp2_with fail
          refine (formulaEnd_e _ f k E _ HE.out hn HS.out hkf (HV.out.below hbl)).mono ?_
          rintro e w1 ⟨rfl, hb1⟩
          have hbl1 := below_trans' hbl hb1
          have q0 := (hbl1.cell (by exact hb)).trans g0
          go_wp2_with fail
          refine (binder_any _ f i _ hn HS.out hif (HV.out.below hbl1)).mono ?_
          rw [← Hr.out]
          rintro e w2 ⟨rfl, hb2⟩
          have hbl2 := below_trans' hbl1 hb2
          go_wp2_with fail
          go_roundw
          case rel => exact ⟨d + 1, Hd2.out hiE, by rw [← Hi1.out]; go_num, HL2, hbl2⟩
          case measure => simp [intOf] <;> omega
      · have hkb : (Y.kind == 6) = false := by simpa using h6
        have HL2 : Hid (usTo f x k (d + 1) = false) := Lib.hid (by rw [HA.out, HL.out, HP.out, decide_eq_false h6]; rfl)
        clear h6
        go_wp2_with fail
        refine (formulaEnd_e _ f k E _ HE.out hn HS.out hkf (HV.out.below hbl)).mono ?_
        rintro e w1 ⟨rfl, hb1⟩
        have hbl1 := below_trans' hbl hb1
        have q0 := (hbl1.cell (by exact hb)).trans g0
        go_wp2_with fail
        go_roundw
        case rel => exact ⟨d + 1, Hd2.out hiE, by rw [← Hi1.out]; go_num, HL2, hbl1⟩
        case measure => simp [intOf] <;> omega
    · have hid : decide ((i : Int) < (E : Int)) = false := decide_eq_false (by omega)
      have HX : Hid (usesB f k x = false) := Lib.hid (by rw [hU.out, ← Hd3.out hiE]; exact HL.out)
      go_wp2_with fail
      refine (formulaEnd_e _ f k E _ HE.out hn HS.out hkf (HV.out.below hbl)).mono ?_
      rintro e w1 ⟨rfl, hb1⟩
      have hbl1 := below_trans' hbl hb1
      go_wp2_with fail
      go_ret
      exact ⟨by rw [HX.out]; rfl, hbl1⟩
set_option maxRecDepth 100000 in
set_option maxHeartbeats 2000000 in
theorem l19Needs_any (v : Value) (f : List Nd) (k x : Nat) (w : World) (hn : f.length ≤ 1048576) (hs : shapeN f = true) (hkd : ∀ i, i < f.length → inR (ndnth f i).kind 0 8 = true) (hkf : k < f.length) (hx : x < 1048576) (hv : RdNd w v f) :
    Calls Tryz.prog 116 #[v, .int .i64 k, .int .i64 x] w fun e w' => e = .returned (.bool (usesB f k x)) ∧ Below w.heap.size w w' := by
  have HV := Lib.hid hv
  have HS := Lib.hid hs
  have HK := Lib.hid hkd
  clear hkd
  obtain ⟨a, cap, rfl, hcap, hcm, _⟩ := hv
  unfold maxLen at hcm
  obtain ⟨n, hxn⟩ : ∃ n, n = f.length := ⟨_, rfl⟩
  obtain ⟨E, hE⟩ : ∃ E, E = endN f k := ⟨_, rfl⟩
  have hel := endN_le f k
  rw [← hE, ← hxn] at hel
  have hU : Hid (usesB f k x = usTo f x k (E - (k + 1))) := Lib.hid (by rw [hE]; rfl)
  rw [← hxn] at hcap HV
  rw [← hxn]
  have Hxn := Lib.hid hxn
  have HE := Lib.hid hE
  have hkn : k < n := by omega
  have hnm : n ≤ 1048576 := by omega
  clear hxn hE hs
  go_enter Tryz.func116, Tryz.ntmps116
  go_wp2_with fail
  refine (l19End_any _ f k _ hn HS.out HK.out hkf HV.out).mono ?_
  rw [← HE.out]
  rintro e w' ⟨rfl, rfl⟩
  go_wp2_with fail
  go_loopw [8] (fun si wr => ∃ d : Nat, d ≤ E - (k + 1) ∧ si = .int .i64 ((k + 1 + d : Nat) : Int) ∧ Hid (usTo f x k d = false) ∧ Below w.heap.size w wr) (fun si _ => E - (intOf si).toNat)
  case atStart => exact ⟨0, Nat.zero_le _, by simp, Lib.hid rfl, Below.refl _ _⟩
  case round =>
    obtain ⟨d, hd, rfl, HL, hbl⟩ := hrel
    obtain ⟨i, hi⟩ : ∃ i, i = k + 1 + d := ⟨_, rfl⟩
    rw [← hi]
    have hd2 : i < E → d + 1 ≤ E - (k + 1) := by omega
    have hd3 : ¬ i < E → d = E - (k + 1) := by omega
    have Hd2 := Lib.hid hd2
    have Hd3 := Lib.hid hd3
    have HA : Hid (usTo f x k (d + 1) = (usTo f x k d || usAt f x i)) := Lib.hid (by rw [hi]; rfl)
    have HP : Hid (usAt f x i = (decide ((ndnth f i).kind = 6) && decide (bindN f i = (x : Int)))) := Lib.hid rfl
    have hi1 : i + 1 = k + 1 + (d + 1) := by omega
    have Hi1 := Lib.hid hi1
    have him : i ≤ 1048577 + E := by omega
    clear hi hd2 hd3 hd hi1
    by_cases hiE : i < E
    · have hif : i < f.length := by have := Hxn.out; omega
      have hin : i < n := by omega
      obtain ⟨b, o, rfl, hb, g0, g1, g2, g3⟩ := RdNd.cells HV.out hif
      have hid : decide ((i : Int) < (E : Int)) = true := decide_eq_true (by omega)
      obtain ⟨Y, hY⟩ : ∃ Y, Y = ndnth f i := ⟨_, rfl⟩
      rw [← hY] at g0 HP
      clear hY g1 g2 g3
      by_cases h6 : Y.kind = 6
      · have hkb : (Y.kind == 6) = true := by simpa using h6
        obtain ⟨r, hr⟩ : ∃ r, r = bindN f i := ⟨_, rfl⟩
        rw [← hr] at HP
        have Hr := Lib.hid hr
        have HP2 : Hid (usAt f x i = decide (r = (x : Int))) := Lib.hid (by rw [HP.out, decide_eq_true h6]; rfl)
        clear h6 hr
        by_cases hrx : r = (x : Int)
        · have hrb : (r == (x : Int)) = true := by simpa using hrx
          have HX : Hid (usesB f k x = true) := Lib.hid (by rw [hU.out]; exact usTo_mono (d := d + 1) (by rw [HA.out, HP2.out, decide_eq_true hrx, Bool.or_true]) _ (Hd2.out hiE))
          clear hrx
          have hbl1 := hbl
          have q0 := (hbl1.cell (by exact hb)).trans g0
          go_wp2_with fail
          refine (l19Binder_any _ f i _ hn HS.out HK.out hif (HV.out.below hbl1)).mono ?_
          rw [← Hr.out]
          rintro e w2 ⟨rfl, hb2⟩
          have hbl2 := below_trans' hbl1 hb2
          go_wp2_with fail
          go_ret
          exact ⟨by rw [HX.out]; rfl, hbl2⟩
        · have hrb : (r == (x : Int)) = false := by simpa using hrx
          have HL2 : Hid (usTo f x k (d + 1) = false) := Lib.hid (by rw [HA.out, HL.out, HP2.out, decide_eq_false hrx]; rfl)
          clear hrx
          have hbl1 := hbl
          have q0 := (hbl1.cell (by exact hb)).trans g0
          go_wp2_with fail
          refine (l19Binder_any _ f i _ hn HS.out HK.out hif (HV.out.below hbl1)).mono ?_
          rw [← Hr.out]
          rintro e w2 ⟨rfl, hb2⟩
          have hbl2 := below_trans' hbl1 hb2
          go_wp2_with fail
          go_roundw
          case rel => exact ⟨d + 1, Hd2.out hiE, by rw [← Hi1.out]; go_num, HL2, hbl2⟩
          case measure => simp [intOf] <;> omega
      · have hkb : (Y.kind == 6) = false := by simpa using h6
        have HL2 : Hid (usTo f x k (d + 1) = false) := Lib.hid (by rw [HA.out, HL.out, HP.out, decide_eq_false h6]; rfl)
        clear h6
        have hbl1 := hbl
        have q0 := (hbl1.cell (by exact hb)).trans g0
        go_wp2_with fail
        go_roundw
        case rel => exact ⟨d + 1, Hd2.out hiE, by rw [← Hi1.out]; go_num, HL2, hbl1⟩
        case measure => simp [intOf] <;> omega
    · have hid : decide ((i : Int) < (E : Int)) = false := decide_eq_false (by omega)
      have HX : Hid (usesB f k x = false) := Lib.hid (by rw [hU.out, ← Hd3.out hiE]; exact HL.out)
      have hbl1 := hbl
      go_wp2_with fail
      go_ret
      exact ⟨by rw [HX.out]; rfl, hbl1⟩
end Go.Proofs.YtmaadfoiaegdjaaGreatDoor
