/- FnExactDiamondRegular: the program and the reference give one formula, for every regular expression and every formula. The tables and errors are tied to the text of the program. -/
import Derived.Test.YtcakmchefbohoaaGreatDoorRows
import Derived.Test.YtcakmchefbohoaaGreatDoorCards
import Derived.Test.YtcakmchefbohoaaGreatDoorTie
import Derived.LaidMore
import Derived.MakeChecks
import Derived.Deep.DeepHandedRow
import Derived.Lib.LaidTab
import Derived.WalkSmall
import Derived.ChangeVars
import Derived.SevenTiedAt
import Derived.Stop.LaidErr
import Derived.Test.YtcakmchefbohoaaGreatDoorOpenI
import Derived.Test.YtcakmchefbohoaaGreatDoorHelpI
import Derived.Test.YtcakmchefbohoaaGreatDoorEnv
import Derived.Test.YtcakmchefbohoaaGreatDoorRLab
import Derived.Test.YtcakmchefbohoaaGreatDoorReg
import Derived.Test.YtcakmchefbohoaaGreatDoorRegW
import Derived.Test.YtcakmchefbohoaaGreatDoorVReg
import Derived.Test.YtcakmchefbohoaaGreatDoorTreeR
import Derived.Test.YtcakmchefbohoaaGreatDoorDec
import Derived.Test.YtcakmchefbohoaaGreatDoorMark
import Derived.Test.YtcakmchefbohoaaGreatDoorEmp
import Derived.Test.YtcakmchefbohoaaGreatDoorConc
import Derived.Test.YtcakmchefbohoaaGreatDoorNode
import Derived.Test.YtcakmchefbohoaaGreatDoorNodeW
import Derived.Test.YtcakmchefbohoaaGreatDoorVMod
import Derived.Test.YtcakmchefbohoaaGreatDoorTreeN
import Derived.Test.YtcakmchefbohoaaGreatDoorVFor
import Derived.Test.YtcakmchefbohoaaGreatDoorNds
import Derived.Test.YtcakmchefbohoaaGreatDoorInst
import Derived.Test.YtcakmchefbohoaaGreatDoorFreq
import Derived.Test.YtcakmchefbohoaaGreatDoorModP
import Derived.Test.YtcakmchefbohoaaGreatDoorModE
import Derived.Test.YtcakmchefbohoaaGreatDoorModJ
import Derived.Test.YtcakmchefbohoaaGreatDoorModB
import Derived.Test.YtcakmchefbohoaaGreatDoorModN
import Derived.Test.YtcakmchefbohoaaGreatDoorHanded
import Derived.WalkKit
import Derived.ProofKit
import Derived.OpenShut
import Derived.ShutString
import Derived.ChangeOld
import Derived.Below
set_option linter.unusedVariables false
set_option linter.unusedSimpArgs false
namespace Go.Proofs.YtcakmchefbohoaaGreatDoor.fnExactDiamondRegular
open Go.ChangeShapes Go.WideShapes Go.ChangeAt Go.RowKit
open Go.ChangeMaps (open_string shut_string)

theorem tabs {W : World} (h : laidMet Tryz.prog Rows.fnExactDiamondRegularRow.laid W) (hS : W.ShapedOpen Tryz.prog) : Env W := ⟨⟨pow_tab (laidMet_tail (laidMet_tail h)), err_syn (laidMet_tail (laidMet_tail (laidMet_tail (laidMet_tail (laidMet_tail h))))), err_ran (laidMet_tail (laidMet_tail (laidMet_tail (laidMet_tail h))))⟩, max_shaped hS⟩
set_option maxHeartbeats 2000000 in
theorem walk (v0 : Value) (r : List Rg) (v1 : Value) (f : List Nd) (w : World) (hr : RdRg w v0 r ∧ RgsOk r) (hf : RdNd w v1 f ∧ NdsOk f) (hL : laidMet Tryz.prog Rows.fnExactDiamondRegularRow.laid w) (hS : w.ShapedOpen Tryz.prog) : Calls Tryz.prog 4 #[v0, v1] w fun e w' => e = .returned (.bool true) ∧ Below w.heap.size w w' := by
  have r64 := Lib.hid hr.2
  have rr := hr.1
  clear hr
  have f64 := Lib.hid hf.2
  have rf := hf.1
  clear hf
  go_enter Tryz.func4, Tryz.ntmps4
  by_cases hlr : totRg r ≤ 1048576
  case neg =>
    go_wp2_with fail
    refine (szRegS_any _ r 1048576 _ (by omega) (by omega) r64.out rr).mono ?_
    rw [show szRg r 1048576 = -1 by unfold szRg; rw [if_neg (by omega)]]
    rintro e w1 ⟨rfl, hb1⟩
    go_wp2_with fail
    go_ret
    exact ⟨rfl, hb1⟩
  go_wp2_with fail
  refine (szRegS_any _ r 1048576 _ (by omega) (by omega) r64.out rr).mono ?_
  rw [show szRg r 1048576 = 1048576 - (totRg r : Nat) by unfold szRg; rw [if_pos (by omega)]]
  rintro e w1 ⟨rfl, hb1⟩
  have B1 : Below w.heap.size w w1 := hb1
  have z1 := hb1.size
  have hnr : ¬ ((1048576 : Int) - (totRg r : Nat) < 0) := by omega
  have hlenr : r.length ≤ 1048576 := by have h := hlr; unfold totRg at h; omega
  have hlabr := Lib.hid (fun i hi => Nat.le_trans (lab_leRg r i hi) hlr)
  by_cases hlf : totRg r + totNd f ≤ 1048576
  case neg =>
    go_wp2_with fail
    refine (szNodeS_any _ f (1048576 - (totRg r : Nat)) _ (by omega) (by omega) f64.out (rf.below B1)).mono ?_
    rw [show szNd f (1048576 - (totRg r : Nat)) = -1 by unfold szNd; rw [if_neg (by omega)]]
    rintro e w2 ⟨rfl, hb2⟩
    go_wp2_with fail
    go_ret
    exact ⟨rfl, B1.trans (hb2.mono (by omega))⟩
  go_wp2_with fail
  refine (szNodeS_any _ f (1048576 - (totRg r : Nat)) _ (by omega) (by omega) f64.out (rf.below B1)).mono ?_
  rw [show szNd f (1048576 - (totRg r : Nat)) = 1048576 - (totRg r : Nat) - (totNd f : Nat) by unfold szNd; rw [if_pos (by omega)] <;> omega]
  rintro e w2 ⟨rfl, hb2⟩
  have B2 : Below w.heap.size w w2 := B1.trans (hb2.mono (by omega))
  have z2 := hb2.size
  have hnf : ¬ (1048576 - (totRg r : Nat) - (totNd f : Nat) < 0) := by omega
  have hlenf : f.length ≤ 1048576 := by have h := hlf; unfold totNd at h; omega
  have hlabf := Lib.hid (fun i hi => Nat.le_trans (lab_leNd f i hi) (by omega : totNd f ≤ 1048576))
  have hT := Lib.hid (tabs hL hS)
  clear hL hS
  have hfl := modO_len false r f
  go_wp2_with fail
  refine (toRegS_any _ r _ (by omega) (rr.below B2)).mono ?_
  rintro e w3 ⟨c1, rfl, f_c1, hb3⟩
  have B3 : Below w.heap.size w w3 := B2.trans (hb3.mono (by omega))
  have z3 := hb3.size
  replace f_c1 := f_c1.inn
  go_wp2_with fail
  refine (toNodeS_any _ f _ (by omega) (rf.below B3)).mono ?_
  rintro e w4 ⟨c2, rfl, f_c2, hb4⟩
  have B4 : Below w.heap.size w w4 := B3.trans (hb4.mono (by omega))
  have z4 := hb4.size
  replace f_c1 := f_c1.below hb4 (by omega)
  replace f_c2 := f_c2.inn
  go_wp2_with fail
  refine (spec_DiamondRegular_any _ _ r f _ hlenr hlabr.out hlenf hlabf.out f_c1.rd f_c2.rd).mono ?_
  rintro e w5 ⟨s0, rfl, f_s0, hb5⟩
  have B5 : Below w.heap.size w w5 := B4.trans (hb5.mono (by omega))
  have z5 := hb5.size
  replace f_c1 := f_c1.below hb5 (by omega)
  replace f_c2 := f_c2.below hb5 (by omega)
  replace f_s0 := f_s0.inn
  go_wp2_with fail
  refine (toRegS_any _ r _ (by omega) (rr.below B5)).mono ?_
  rintro e w6 ⟨c3, rfl, f_c3, hb6⟩
  have B6 : Below w.heap.size w w6 := B5.trans (hb6.mono (by omega))
  have z6 := hb6.size
  replace f_c1 := f_c1.below hb6 (by omega)
  replace f_c2 := f_c2.below hb6 (by omega)
  replace f_s0 := f_s0.below hb6 (by omega)
  replace f_c3 := f_c3.inn
  go_wp2_with fail
  refine (toNodeS_any _ f _ (by omega) (rf.below B6)).mono ?_
  rintro e w7 ⟨c4, rfl, f_c4, hb7⟩
  have B7 : Below w.heap.size w w7 := B6.trans (hb7.mono (by omega))
  have z7 := hb7.size
  replace f_c1 := f_c1.below hb7 (by omega)
  replace f_c2 := f_c2.below hb7 (by omega)
  replace f_s0 := f_s0.below hb7 (by omega)
  replace f_c3 := f_c3.below hb7 (by omega)
  replace f_c4 := f_c4.inn
  go_wp2_with fail
  refine (DiamondRegular_any _ _ r f _ hlenr hlabr.out hlenf hlabf.out (hT.out.below B7) f_c3.rd f_c4.rd).mono ?_
  rintro e w8 ⟨g0, rfl, f_g0, hb8⟩
  have B8 : Below w.heap.size w w8 := B7.trans (hb8.mono (by omega))
  have z8 := hb8.size
  replace f_c1 := f_c1.below hb8 (by omega)
  replace f_c2 := f_c2.below hb8 (by omega)
  replace f_s0 := f_s0.below hb8 (by omega)
  replace f_c3 := f_c3.below hb8 (by omega)
  replace f_c4 := f_c4.below hb8 (by omega)
  replace f_g0 := f_g0.inn
  go_wp2_with fail
  refine (eqNodeS_any _ _ (modO false r f) (modO false r f) _ (by omega) f_g0.rd f_s0.rd).mono ?_
  rintro e w9 ⟨rfl, hb9⟩
  have B9 : Below w.heap.size w w9 := B8.trans (hb9.mono (by omega))
  have z9 := hb9.size
  replace f_c1 := f_c1.below hb9 (by omega)
  replace f_c2 := f_c2.below hb9 (by omega)
  replace f_s0 := f_s0.below hb9 (by omega)
  replace f_c3 := f_c3.below hb9 (by omega)
  replace f_c4 := f_c4.below hb9 (by omega)
  replace f_g0 := f_g0.below hb9 (by omega)
  go_wp2_with fail
  refine (toRegS_any _ r _ (by omega) (rr.below B9)).mono ?_
  rintro e w10 ⟨c5, rfl, f_c5, hb10⟩
  have B10 : Below w.heap.size w w10 := B9.trans (hb10.mono (by omega))
  have z10 := hb10.size
  replace f_c1 := f_c1.below hb10 (by omega)
  replace f_c2 := f_c2.below hb10 (by omega)
  replace f_s0 := f_s0.below hb10 (by omega)
  replace f_c3 := f_c3.below hb10 (by omega)
  replace f_c4 := f_c4.below hb10 (by omega)
  replace f_g0 := f_g0.below hb10 (by omega)
  replace f_c5 := f_c5.inn
  go_wp2_with fail
  refine (eqRegS_any _ _ (r) (r) _ (by omega) f_c3.rd f_c5.rd).mono ?_
  rintro e w11 ⟨rfl, hb11⟩
  have B11 : Below w.heap.size w w11 := B10.trans (hb11.mono (by omega))
  have z11 := hb11.size
  replace f_c1 := f_c1.below hb11 (by omega)
  replace f_c2 := f_c2.below hb11 (by omega)
  replace f_s0 := f_s0.below hb11 (by omega)
  replace f_c3 := f_c3.below hb11 (by omega)
  replace f_c4 := f_c4.below hb11 (by omega)
  replace f_g0 := f_g0.below hb11 (by omega)
  replace f_c5 := f_c5.below hb11 (by omega)
  go_wp2_with fail
  refine (toNodeS_any _ f _ (by omega) (rf.below B11)).mono ?_
  rintro e w12 ⟨c6, rfl, f_c6, hb12⟩
  have B12 : Below w.heap.size w w12 := B11.trans (hb12.mono (by omega))
  have z12 := hb12.size
  replace f_c1 := f_c1.below hb12 (by omega)
  replace f_c2 := f_c2.below hb12 (by omega)
  replace f_s0 := f_s0.below hb12 (by omega)
  replace f_c3 := f_c3.below hb12 (by omega)
  replace f_c4 := f_c4.below hb12 (by omega)
  replace f_g0 := f_g0.below hb12 (by omega)
  replace f_c5 := f_c5.below hb12 (by omega)
  replace f_c6 := f_c6.inn
  go_wp2_with fail
  refine (eqNodeS_any _ _ (f) (f) _ (by omega) f_c4.rd f_c6.rd).mono ?_
  rintro e w13 ⟨rfl, hb13⟩
  have B13 : Below w.heap.size w w13 := B12.trans (hb13.mono (by omega))
  have z13 := hb13.size
  replace f_c1 := f_c1.below hb13 (by omega)
  replace f_c2 := f_c2.below hb13 (by omega)
  replace f_s0 := f_s0.below hb13 (by omega)
  replace f_c3 := f_c3.below hb13 (by omega)
  replace f_c4 := f_c4.below hb13 (by omega)
  replace f_g0 := f_g0.below hb13 (by omega)
  replace f_c5 := f_c5.below hb13 (by omega)
  replace f_c6 := f_c6.below hb13 (by omega)
  go_wp2_with fail
  refine (markRegS_any _ _ _ (r) (1) _ (by omega) (by omega) (by omega) f_c3).mono ?_
  rintro e w14 ⟨rfl, f_c3, hb14⟩
  have B14 : Below w.heap.size w w14 := B13.trans ((hb14.below (Nat.le_refl _) (by omega)).mono (by omega))
  have z14 := hb14.size
  replace f_c1 := f_c1.mod hb14 (by omega)
  replace f_c2 := f_c2.mod hb14 (by omega)
  replace f_s0 := f_s0.mod hb14 (by omega)
  replace f_c4 := f_c4.mod hb14 (by omega)
  replace f_g0 := f_g0.mod hb14 (by omega)
  replace f_c5 := f_c5.mod hb14 (by omega)
  replace f_c6 := f_c6.mod hb14 (by omega)
  go_wp2_with fail
  refine (markNodeS_any _ _ _ (f) (1 + ((r).length : Int) * 3) _ (by omega) (by omega) (by omega) f_c4).mono ?_
  rintro e w15 ⟨rfl, f_c4, hb15⟩
  have B15 : Below w.heap.size w w15 := B14.trans ((hb15.below (Nat.le_refl _) (by omega)).mono (by omega))
  have z15 := hb15.size
  replace f_c1 := f_c1.mod hb15 (by omega)
  replace f_c2 := f_c2.mod hb15 (by omega)
  replace f_s0 := f_s0.mod hb15 (by omega)
  replace f_c3 := f_c3.mod hb15 (by omega)
  replace f_g0 := f_g0.mod hb15 (by omega)
  replace f_c5 := f_c5.mod hb15 (by omega)
  replace f_c6 := f_c6.mod hb15 (by omega)
  have k0 : ¬ (1 + ((r).length : Int) * 3 + ((f).length : Int) * 4 < 0) := by omega
  have k1 : decide (1 + ((r).length : Int) * 3 + ((f).length : Int) * 4 < 0) = false := by simpa using k0
  go_wp2_with fail
  refine (eqNodeS_any _ _ (modO false r f) (modO false r f) _ (by omega) f_g0.rd f_s0.rd).mono ?_
  rintro e w16 ⟨rfl, hb16⟩
  have B16 : Below w.heap.size w w16 := B15.trans (hb16.mono (by omega))
  have z16 := hb16.size
  replace f_c1 := f_c1.below hb16 (by omega)
  replace f_c2 := f_c2.below hb16 (by omega)
  replace f_s0 := f_s0.below hb16 (by omega)
  replace f_c3 := f_c3.below hb16 (by omega)
  replace f_c4 := f_c4.below hb16 (by omega)
  replace f_g0 := f_g0.below hb16 (by omega)
  replace f_c5 := f_c5.below hb16 (by omega)
  replace f_c6 := f_c6.below hb16 (by omega)
  go_wp2_with fail
  refine (markNodeS_any _ _ _ (modO false r f) (1) _ (by omega) (by omega) (by omega) f_g0).mono ?_
  rintro e w17 ⟨rfl, f_g0, hb17⟩
  have B17 : Below w.heap.size w w17 := B16.trans ((hb17.below (Nat.le_refl _) (by omega)).mono (by omega))
  have z17 := hb17.size
  replace f_c1 := f_c1.mod hb17 (by omega)
  replace f_c2 := f_c2.mod hb17 (by omega)
  replace f_s0 := f_s0.mod hb17 (by omega)
  replace f_c3 := f_c3.mod hb17 (by omega)
  replace f_c4 := f_c4.mod hb17 (by omega)
  replace f_c5 := f_c5.mod hb17 (by omega)
  replace f_c6 := f_c6.mod hb17 (by omega)
  have k2 : ¬ (1 + ((modO false r f).length : Int) * 4 < 0) := by omega
  go_wp2_with fail
  refine (heldNodeS_any _ (1) (modO false r f).length _ (by omega) (by omega) (by omega) f_g0.rd).mono ?_
  rintro e w18 ⟨rfl, hb18⟩
  have B18 : Below w.heap.size w w18 := B17.trans (hb18.mono (by omega))
  have z18 := hb18.size
  replace f_c1 := f_c1.below hb18 (by omega)
  replace f_c2 := f_c2.below hb18 (by omega)
  replace f_s0 := f_s0.below hb18 (by omega)
  replace f_c3 := f_c3.below hb18 (by omega)
  replace f_c4 := f_c4.below hb18 (by omega)
  replace f_g0 := f_g0.below hb18 (by omega)
  replace f_c5 := f_c5.below hb18 (by omega)
  replace f_c6 := f_c6.below hb18 (by omega)
  go_wp2_with fail
  refine (toRegS_any _ r _ (by omega) (rr.below B18)).mono ?_
  rintro e w19 ⟨c7, rfl, f_c7, hb19⟩
  have B19 : Below w.heap.size w w19 := B18.trans (hb19.mono (by omega))
  have z19 := hb19.size
  replace f_c1 := f_c1.below hb19 (by omega)
  replace f_c2 := f_c2.below hb19 (by omega)
  replace f_s0 := f_s0.below hb19 (by omega)
  replace f_c3 := f_c3.below hb19 (by omega)
  replace f_c4 := f_c4.below hb19 (by omega)
  replace f_g0 := f_g0.below hb19 (by omega)
  replace f_c5 := f_c5.below hb19 (by omega)
  replace f_c6 := f_c6.below hb19 (by omega)
  replace f_c7 := f_c7.inn
  go_wp2_with fail
  refine (toNodeS_any _ f _ (by omega) (rf.below B19)).mono ?_
  rintro e w20 ⟨c8, rfl, f_c8, hb20⟩
  have B20 : Below w.heap.size w w20 := B19.trans (hb20.mono (by omega))
  have z20 := hb20.size
  replace f_c1 := f_c1.below hb20 (by omega)
  replace f_c2 := f_c2.below hb20 (by omega)
  replace f_s0 := f_s0.below hb20 (by omega)
  replace f_c3 := f_c3.below hb20 (by omega)
  replace f_c4 := f_c4.below hb20 (by omega)
  replace f_g0 := f_g0.below hb20 (by omega)
  replace f_c5 := f_c5.below hb20 (by omega)
  replace f_c6 := f_c6.below hb20 (by omega)
  replace f_c7 := f_c7.below hb20 (by omega)
  replace f_c8 := f_c8.inn
  go_wp2_with fail
  refine (DiamondRegular_any _ _ r f _ hlenr hlabr.out hlenf hlabf.out (hT.out.below B20) f_c7.rd f_c8.rd).mono ?_
  rintro e w21 ⟨h0, rfl, f_h0, hb21⟩
  have B21 : Below w.heap.size w w21 := B20.trans (hb21.mono (by omega))
  have z21 := hb21.size
  replace f_c1 := f_c1.below hb21 (by omega)
  replace f_c2 := f_c2.below hb21 (by omega)
  replace f_s0 := f_s0.below hb21 (by omega)
  replace f_c3 := f_c3.below hb21 (by omega)
  replace f_c4 := f_c4.below hb21 (by omega)
  replace f_g0 := f_g0.below hb21 (by omega)
  replace f_c5 := f_c5.below hb21 (by omega)
  replace f_c6 := f_c6.below hb21 (by omega)
  replace f_c7 := f_c7.below hb21 (by omega)
  replace f_c8 := f_c8.below hb21 (by omega)
  replace f_h0 := f_h0.inn
  go_wp2_with fail
  refine (eqNodeS_any _ _ (modO false r f) (modO false r f) _ (by omega) f_h0.rd f_s0.rd).mono ?_
  rintro e w22 ⟨rfl, hb22⟩
  have B22 : Below w.heap.size w w22 := B21.trans (hb22.mono (by omega))
  have z22 := hb22.size
  replace f_c1 := f_c1.below hb22 (by omega)
  replace f_c2 := f_c2.below hb22 (by omega)
  replace f_s0 := f_s0.below hb22 (by omega)
  replace f_c3 := f_c3.below hb22 (by omega)
  replace f_c4 := f_c4.below hb22 (by omega)
  replace f_g0 := f_g0.below hb22 (by omega)
  replace f_c5 := f_c5.below hb22 (by omega)
  replace f_c6 := f_c6.below hb22 (by omega)
  replace f_c7 := f_c7.below hb22 (by omega)
  replace f_c8 := f_c8.below hb22 (by omega)
  replace f_h0 := f_h0.below hb22 (by omega)
  go_wp2_with fail
  refine (heldNodeS_any _ (1) (modO false r f).length _ (by omega) (by omega) (by omega) f_g0.rd).mono ?_
  rintro e w23 ⟨rfl, hb23⟩
  have B23 : Below w.heap.size w w23 := B22.trans (hb23.mono (by omega))
  have z23 := hb23.size
  replace f_c1 := f_c1.below hb23 (by omega)
  replace f_c2 := f_c2.below hb23 (by omega)
  replace f_s0 := f_s0.below hb23 (by omega)
  replace f_c3 := f_c3.below hb23 (by omega)
  replace f_c4 := f_c4.below hb23 (by omega)
  replace f_g0 := f_g0.below hb23 (by omega)
  replace f_c5 := f_c5.below hb23 (by omega)
  replace f_c6 := f_c6.below hb23 (by omega)
  replace f_c7 := f_c7.below hb23 (by omega)
  replace f_c8 := f_c8.below hb23 (by omega)
  replace f_h0 := f_h0.below hb23 (by omega)
  go_wp2_with fail
  go_ret
  exact ⟨rfl, B23⟩
theorem own : ownKnob Tryz.prog.godebug = none := by kernel_rfl
theorem laidOut : laidOutB Tryz.prog = true := by kernel_rfl
set_option maxRecDepth 100000 in
theorem lifted (os : Os) (started : os.Started) (H : Type) (enc : TypeId × Value → H) :
    ReturnsInHanded {} Tryz.checked os 4 .any (fun w args => (Rows.fnExactDiamondRegularSpec.pre enc Tryz.prog Tryz.f4 [] false w args ∧ laidMetH Tryz.prog Rows.fnExactDiamondRegularRow.laid w) ∧ sizedMet enc Tryz.prog Tryz.f4 (OpenSpec.ofChange Rows.fnExactDiamondRegularSpec) false w args)
      (Rows.fnExactDiamondRegularSpec.post enc Tryz.prog Tryz.f4 false true false false) := by
  refine handed_shaped (C := Tryz.checked) (X := fun w _ => laidMetH Tryz.prog Rows.fnExactDiamondRegularRow.laid w) own started (by kernel_rfl) Tryz.func4 (fun _ _ _ hh h => h.of_heap hh)
    (ChangeSpec.witness_shaped (enc := enc) (C := Tryz.checked) (os := os) (X := fun w _ => laidMetH Tryz.prog Rows.fnExactDiamondRegularRow.laid w) false (World.laidAll Tryz.prog os Rows.fnExactDiamondRegularRow.laid) #[.slice none 0 0, .slice none 0 0] 8 (World.laidAll_os _ _ _) (World.shaped_of_ZipB (by kernel_rfl) (by kernel_rfl)) (by kernel_rfl) (by kernel_rfl) (by kernel_rfl) (by rw [MakeChecks.laidMetH_plain _ _ _ (by kernel_rfl)]; exact laidMet_laidAll _ (by kernel_rfl) (by kernel_rfl))) ?_
  intro W base args ds gs before hval0 hW hL hS
  rw [MakeChecks.laidMetH_plain _ _ _ (by kernel_rfl)] at hL
  have hval : ∀ (j : Nat) t v, Tryz.f4.params[j]? = some t → args[j]? = some v → Value.okWide Tryz.prog W .any base t v := hval0
  have hW' := hW
  obtain ⟨p, q, hA0, hV, rfl, hfz, hnd⟩ := hW
  have hA : DataW.TrodAll enc Tryz.prog W 0 (fun _ => true) true Tryz.f4.params.toList args.toList ds p := hA0
  rw [Tryz.params4] at hA hval
  obtain ⟨v0, vs0, d0, ds0, p0, q0, hargs, rfl, rfl, h0, r0⟩ := trodAll_cons hA
  obtain ⟨v1, vs1, d1, ds1, p1, q1, rfl, rfl, rfl, h1, r1⟩ := trodAll_cons r0
  obtain ⟨rfl, rfl, rfl⟩ := trodAll_nil r1
  obtain rfl : args = #[v0, v1] := by cases args; simp_all
  obtain ⟨rfl, rfl⟩ := trodVars_none hV
  have k0 := h0
  have lt0 : ∀ x ∈ p0, x.block < W.heap.size := by obtain ⟨m, hm⟩ := k0; exact DataW.trod_lt m _ _ _ hm
  obtain ⟨z0, w0⟩ := openReg (hval 0 22 v0 rfl rfl) h0 lt0
  have k1 := h1
  have lt1 : ∀ x ∈ p1, x.block < W.heap.size := by obtain ⟨m, hm⟩ := k1; exact DataW.trod_lt m _ _ _ hm
  obtain ⟨z1, w1⟩ := openNode (hval 1 23 v1 rfl rfl) h1 lt1
  clear hA0 hval0
  refine (walk v0 z0 v1 z1 W w0 w1 hL hS).mono fun e W' ⟨he, bel⟩ => ?_
  subst he
  exact ⟨_, rfl, _, _, _, [], _, [], hW', trodAll_mk1 (shut_bool Tryz.underlying4 _), (trodAll_cons_mk (Below.trod laidOut (by kernel_rfl) (of_decide_eq_true (by kernel_rfl)) k0 bel lt0) (trodAll_cons_mk (Below.trod laidOut (by kernel_rfl) (of_decide_eq_true (by kernel_rfl)) k1 bel lt1) trodAll_mk0)), rfl, bel.frame _, fun h => by cases h⟩
theorem g0 : Rows.fnExactDiamondRegularRow.wf (OpenSpec.ofChange Rows.fnExactDiamondRegularSpec) = true := by kernel_rfl
theorem g1 : laidOutB Tryz.prog = true := by kernel_rfl
theorem g2 : mapsRowed Tryz.prog = true := by kernel_rfl
theorem g10 : (Rows.fnExactDiamondRegularRow.inPlace == Tryz.prog.inPlace 4) = true := by kernel_rfl
theorem g11 : (Rows.fnExactDiamondRegularRow.unfollowed == Tryz.prog.unfollowed 4) = true := by kernel_rfl
theorem g12 : (Rows.fnExactDiamondRegularRow.recurses == Tryz.prog.recurses 4) = true := by kernel_rfl
theorem g13 : (Rows.fnExactDiamondRegularRow.named == Tryz.prog.varsNamed 4) = true := by kernel_rfl
theorem facts : joinedFacts Tryz.pinned.checked.prog 4 Tryz.f4 Rows.fnExactDiamondRegularSpec Rows.fnExactDiamondRegularRow = true := by
  show joinedFacts Tryz.prog 4 Tryz.f4 Rows.fnExactDiamondRegularSpec Rows.fnExactDiamondRegularRow = true
  unfold joinedFacts
  rw [g0, g1, g2, g10, g11, g12, g13]
  kernel_rfl
theorem said : Rows.fnExactDiamondRegularRow.holds Tryz.pinned (OpenSpec.ofChange Rows.fnExactDiamondRegularSpec) :=
  OpenClaim.holds_of_wide 4 Tryz.f4 rfl rfl rfl rfl rfl rfl rfl ⟨rfl, rfl, rfl, rfl, rfl⟩ rfl rfl rfl rfl rfl (by kernel_rfl) Tryz.func4 facts
    (of_decide_eq_true (by kernel_rfl)) (by unfold Func.isWrapper; first | (rw [if_pos (by decide +kernel)]; kernel_rfl) | (rw [if_neg (by decide +kernel)]; exact ⟨rfl, rfl⟩))
    (fun os started H enc _ => lifted os started H enc)
theorem plain (f : FuncId) (fn : Func) (hf : Tryz.pinned.checked.prog.funcNamed Rows.fnExactDiamondRegularRow.func = some f) (hfn : Tryz.pinned.checked.prog.funcs[f]? = some fn) :
    true = Tryz.pinned.checked.prog.looks [] ∧ ∀ (j : Nat) t, fn.params[j]? = some t → Tryz.pinned.checked.prog.wantsStandIn t = false := by
  obtain rfl : f = 4 := Option.some.inj ((show Tryz.prog.funcNamed Rows.fnExactDiamondRegularRow.func = some 4 by kernel_rfl).symm.trans hf) |>.symm
  obtain rfl : fn = Tryz.f4 := (Option.some.inj (Tryz.func4.symm.trans hfn)).symm
  refine ⟨by kernel_rfl, fun j t ht => ?_⟩
  rw [Tryz.params4] at ht
  have hm : t ∈ [22, 23] := by simpa using Array.mem_of_getElem? ht
  have hall : ([22, 23].all fun u => !Tryz.prog.wantsStandIn u) = true := by kernel_rfl
  exact (show Tryz.prog.wantsStandIn t = false by simpa using List.all_eq_true.1 hall t hm)
theorem card : Rows.FnExactDiamondRegularCardSaid :=
  Claim7.holds_tied_plain_at .later [] _ _ _ _ said (fun _ h => by cases h) (by kernel_rfl) (fun _ h => by cases h) fnExactDiamondRegular_row_tie rfl ⟨rfl, rfl⟩ (by kernel_rfl) rfl plain (by kernel_rfl)
end Go.Proofs.YtcakmchefbohoaaGreatDoor.fnExactDiamondRegular
