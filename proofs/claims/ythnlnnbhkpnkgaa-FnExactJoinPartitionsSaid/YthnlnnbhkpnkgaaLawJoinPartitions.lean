/- FnExactJoinPartitions: the program and the reference give one join, for every two lists. No condition. -/
import Derived.Test.YthnlnnbhkpnkgaaRows
import Derived.Test.YthnlnnbhkpnkgaaOpenI
import Derived.Test.YthnlnnbhkpnkgaaHelpI
import Derived.Test.YthnlnnbhkpnkgaaPartX
import Derived.Test.YthnlnnbhkpnkgaaJoin
import Derived.WalkKit
import Derived.ProofKit
import Derived.OpenShut
import Derived.ShutString
import Derived.ChangeOld
import Derived.Below
set_option linter.unusedVariables false
set_option linter.unusedSimpArgs false
namespace Go.Proofs.Ythnlnnbhkpnkgaa.fnExactJoinPartitions
open Go.ChangeShapes Go.WideShapes Go.ChangeAt Go.RowKit
open Go.ChangeMaps (open_string shut_string)

set_option maxHeartbeats 1000000 in
theorem walk (v0 : Value) (x : List Int) (v1 : Value) (y : List Int) (w : World) (hx : RdI w v0 x ∧ I64s x) (hy : RdI w v1 y ∧ I64s y) : Calls Try.prog 11 #[v0, v1] w fun e w' => e = .returned (.bool true) ∧ Below w.heap.size w w' := by
  by_cases hlx : x.length ≤ 1048576
  case neg =>
    have hd : (1048576 : Int) < x.length := by omega
    obtain ⟨ax, capx, rfl⟩ := hx.1.slice
    obtain ⟨ay, capy, rfl⟩ := hy.1.slice
    go_enter Try.func11, Try.ntmps11
    go_wp2
    go_ret
    exact ⟨rfl, Below.refl _ _⟩
  have hdx : ¬ (1048576 : Int) < x.length := by omega
  by_cases hly : y.length ≤ 1048576
  case neg =>
    have hd : (1048576 : Int) < y.length := by omega
    obtain ⟨ax, capx, rfl⟩ := hx.1.slice
    obtain ⟨ay, capy, rfl⟩ := hy.1.slice
    go_enter Try.func11, Try.ntmps11
    go_wp2
    go_ret
    exact ⟨rfl, Below.refl _ _⟩
  have hdy : ¬ (1048576 : Int) < y.length := by omega
  have x64 := Lib.hid hx.2
  have rx := hx.1
  obtain ⟨ax, capx, rfl⟩ := hx.1.slice
  clear hx
  have y64 := Lib.hid hy.2
  have ry := hy.1
  obtain ⟨ay, capy, rfl⟩ := hy.1.slice
  clear hy
  go_enter Try.func11, Try.ntmps11
  have hmo : (joinOut x y).length ≤ 1048576 := Nat.le_trans (joinOut_length x y) (by decide)
  go_wp2_with fail
  refine (toInt64S_any _ x _ hlx rx).mono ?_
  rintro e w1 ⟨c1, rfl, f_c1, hb1⟩
  have B1 : Below w.heap.size w w1 := (Below.refl _ _).trans (hb1.mono (by omega))
  have z1 := hb1.size
  replace f_c1 := f_c1.inn
  go_wp2_with fail
  refine (toInt64S_any _ y _ hly (ry.below B1)).mono ?_
  rintro e w2 ⟨c2, rfl, f_c2, hb2⟩
  have B2 : Below w.heap.size w w2 := B1.trans (hb2.mono (by omega))
  have z2 := hb2.size
  replace f_c1 := f_c1.below hb2 (by omega)
  replace f_c2 := f_c2.inn
  go_wp2_with fail
  refine (spec_JoinPartitions_any _ _ x y _ hlx hly f_c1.rd f_c2.rd).mono ?_
  rintro e w3 ⟨s0, rfl, f_s0, hb3⟩
  have B3 : Below w.heap.size w w3 := B2.trans (hb3.mono (by omega))
  have z3 := hb3.size
  replace f_c1 := f_c1.below hb3 (by omega)
  replace f_c2 := f_c2.below hb3 (by omega)
  replace f_s0 := f_s0.inn
  go_wp2_with fail
  refine (toInt64S_any _ x _ hlx (rx.below B3)).mono ?_
  rintro e w4 ⟨c3, rfl, f_c3, hb4⟩
  have B4 : Below w.heap.size w w4 := B3.trans (hb4.mono (by omega))
  have z4 := hb4.size
  replace f_c1 := f_c1.below hb4 (by omega)
  replace f_c2 := f_c2.below hb4 (by omega)
  replace f_s0 := f_s0.below hb4 (by omega)
  replace f_c3 := f_c3.inn
  go_wp2_with fail
  refine (toInt64S_any _ y _ hly (ry.below B4)).mono ?_
  rintro e w5 ⟨c4, rfl, f_c4, hb5⟩
  have B5 : Below w.heap.size w w5 := B4.trans (hb5.mono (by omega))
  have z5 := hb5.size
  replace f_c1 := f_c1.below hb5 (by omega)
  replace f_c2 := f_c2.below hb5 (by omega)
  replace f_s0 := f_s0.below hb5 (by omega)
  replace f_c3 := f_c3.below hb5 (by omega)
  replace f_c4 := f_c4.inn
  go_wp2_with fail
  refine (JoinPartitions_any _ _ x y _ hlx hly x64.out y64.out f_c3.rd f_c4.rd).mono ?_
  rintro e w6 ⟨g0, rfl, f_g0, hb6⟩
  have B6 : Below w.heap.size w w6 := B5.trans (hb6.mono (by omega))
  have z6 := hb6.size
  replace f_c1 := f_c1.below hb6 (by omega)
  replace f_c2 := f_c2.below hb6 (by omega)
  replace f_s0 := f_s0.below hb6 (by omega)
  replace f_c3 := f_c3.below hb6 (by omega)
  replace f_c4 := f_c4.below hb6 (by omega)
  replace f_g0 := f_g0.inn
  go_wp2_with fail
  refine (eqInt64S_any _ _ (joinOut x y) (joinOut x y) _ (by omega) f_g0.rd f_s0.rd).mono ?_
  rintro e w7 ⟨rfl, hb7⟩
  have B7 : Below w.heap.size w w7 := B6.trans (hb7.mono (by omega))
  have z7 := hb7.size
  replace f_c1 := f_c1.below hb7 (by omega)
  replace f_c2 := f_c2.below hb7 (by omega)
  replace f_s0 := f_s0.below hb7 (by omega)
  replace f_c3 := f_c3.below hb7 (by omega)
  replace f_c4 := f_c4.below hb7 (by omega)
  replace f_g0 := f_g0.below hb7 (by omega)
  go_wp2_with fail
  refine (toInt64S_any _ x _ hlx (rx.below B7)).mono ?_
  rintro e w8 ⟨c5, rfl, f_c5, hb8⟩
  have B8 : Below w.heap.size w w8 := B7.trans (hb8.mono (by omega))
  have z8 := hb8.size
  replace f_c1 := f_c1.below hb8 (by omega)
  replace f_c2 := f_c2.below hb8 (by omega)
  replace f_s0 := f_s0.below hb8 (by omega)
  replace f_c3 := f_c3.below hb8 (by omega)
  replace f_c4 := f_c4.below hb8 (by omega)
  replace f_g0 := f_g0.below hb8 (by omega)
  replace f_c5 := f_c5.inn
  go_wp2_with fail
  refine (eqInt64S_any _ _ x x _ (by omega) f_c3.rd f_c5.rd).mono ?_
  rintro e w9 ⟨rfl, hb9⟩
  have B9 : Below w.heap.size w w9 := B8.trans (hb9.mono (by omega))
  have z9 := hb9.size
  replace f_c1 := f_c1.below hb9 (by omega)
  replace f_c2 := f_c2.below hb9 (by omega)
  replace f_s0 := f_s0.below hb9 (by omega)
  replace f_c3 := f_c3.below hb9 (by omega)
  replace f_c4 := f_c4.below hb9 (by omega)
  replace f_g0 := f_g0.below hb9 (by omega)
  replace f_c5 := f_c5.below hb9 (by omega)
  go_wp2_with fail
  refine (toInt64S_any _ y _ hly (ry.below B9)).mono ?_
  rintro e w10 ⟨c6, rfl, f_c6, hb10⟩
  have B10 : Below w.heap.size w w10 := B9.trans (hb10.mono (by omega))
  have z10 := hb10.size
  replace f_c1 := f_c1.below hb10 (by omega)
  replace f_c2 := f_c2.below hb10 (by omega)
  replace f_s0 := f_s0.below hb10 (by omega)
  replace f_c3 := f_c3.below hb10 (by omega)
  replace f_c4 := f_c4.below hb10 (by omega)
  replace f_g0 := f_g0.below hb10 (by omega)
  replace f_c5 := f_c5.below hb10 (by omega)
  replace f_c6 := f_c6.inn
  go_wp2_with fail
  refine (eqInt64S_any _ _ y y _ (by omega) f_c4.rd f_c6.rd).mono ?_
  rintro e w11 ⟨rfl, hb11⟩
  have B11 : Below w.heap.size w w11 := B10.trans (hb11.mono (by omega))
  have z11 := hb11.size
  replace f_c1 := f_c1.below hb11 (by omega)
  replace f_c2 := f_c2.below hb11 (by omega)
  replace f_s0 := f_s0.below hb11 (by omega)
  replace f_c3 := f_c3.below hb11 (by omega)
  replace f_c4 := f_c4.below hb11 (by omega)
  replace f_g0 := f_g0.below hb11 (by omega)
  replace f_c5 := f_c5.below hb11 (by omega)
  replace f_c6 := f_c6.below hb11 (by omega)
  go_wp2_with fail
  refine (markInt64S_any _ _ _ x (1) _ hlx (by omega) (by omega) f_c3).mono ?_
  rintro e w12 ⟨rfl, f_c3, hb12⟩
  have B12 : Below w.heap.size w w12 := B11.trans ((hb12.below (Nat.le_refl _) (by omega)).mono (by omega))
  have z12 := hb12.size
  replace f_c1 := f_c1.mod hb12 (by omega)
  replace f_c2 := f_c2.mod hb12 (by omega)
  replace f_s0 := f_s0.mod hb12 (by omega)
  replace f_c4 := f_c4.mod hb12 (by omega)
  replace f_g0 := f_g0.mod hb12 (by omega)
  replace f_c5 := f_c5.mod hb12 (by omega)
  replace f_c6 := f_c6.mod hb12 (by omega)
  go_wp2_with fail
  refine (markInt64S_any _ _ _ y (1 + (x.length : Int)) _ hly (by omega) (by omega) f_c4).mono ?_
  rintro e w13 ⟨rfl, f_c4, hb13⟩
  have B13 : Below w.heap.size w w13 := B12.trans ((hb13.below (Nat.le_refl _) (by omega)).mono (by omega))
  have z13 := hb13.size
  replace f_c1 := f_c1.mod hb13 (by omega)
  replace f_c2 := f_c2.mod hb13 (by omega)
  replace f_s0 := f_s0.mod hb13 (by omega)
  replace f_c3 := f_c3.mod hb13 (by omega)
  replace f_g0 := f_g0.mod hb13 (by omega)
  replace f_c5 := f_c5.mod hb13 (by omega)
  replace f_c6 := f_c6.mod hb13 (by omega)
  have k0 : ¬ (1 + (x.length : Int) + (y.length : Int) < 0) := by omega
  have k1 : decide (1 + (x.length : Int) + (y.length : Int) < 0) = false := by simpa using k0
  go_wp2_with fail
  refine (eqInt64S_any _ _ (joinOut x y) (joinOut x y) _ (by omega) f_g0.rd f_s0.rd).mono ?_
  rintro e w14 ⟨rfl, hb14⟩
  have B14 : Below w.heap.size w w14 := B13.trans (hb14.mono (by omega))
  have z14 := hb14.size
  replace f_c1 := f_c1.below hb14 (by omega)
  replace f_c2 := f_c2.below hb14 (by omega)
  replace f_s0 := f_s0.below hb14 (by omega)
  replace f_c3 := f_c3.below hb14 (by omega)
  replace f_c4 := f_c4.below hb14 (by omega)
  replace f_g0 := f_g0.below hb14 (by omega)
  replace f_c5 := f_c5.below hb14 (by omega)
  replace f_c6 := f_c6.below hb14 (by omega)
  go_wp2_with fail
  refine (markInt64S_any _ _ _ (joinOut x y) (1) _ hmo (by omega) (by omega) f_g0).mono ?_
  rintro e w15 ⟨rfl, f_g0, hb15⟩
  have B15 : Below w.heap.size w w15 := B14.trans ((hb15.below (Nat.le_refl _) (by omega)).mono (by omega))
  have z15 := hb15.size
  replace f_c1 := f_c1.mod hb15 (by omega)
  replace f_c2 := f_c2.mod hb15 (by omega)
  replace f_s0 := f_s0.mod hb15 (by omega)
  replace f_c3 := f_c3.mod hb15 (by omega)
  replace f_c4 := f_c4.mod hb15 (by omega)
  replace f_c5 := f_c5.mod hb15 (by omega)
  replace f_c6 := f_c6.mod hb15 (by omega)
  have k2 : ¬ (1 + ((joinOut x y).length : Int) < 0) := by omega
  go_wp2_with fail
  refine (heldInt64S_any _ (1) (joinOut x y).length _ hmo (by omega) (by omega) f_g0.rd).mono ?_
  rintro e w' ⟨rfl, rfl⟩
  go_wp2_with fail
  refine (toInt64S_any _ x _ hlx (rx.below B15)).mono ?_
  rintro e w16 ⟨c7, rfl, f_c7, hb16⟩
  have B16 : Below w.heap.size w w16 := B15.trans (hb16.mono (by omega))
  have z16 := hb16.size
  replace f_c1 := f_c1.below hb16 (by omega)
  replace f_c2 := f_c2.below hb16 (by omega)
  replace f_s0 := f_s0.below hb16 (by omega)
  replace f_c3 := f_c3.below hb16 (by omega)
  replace f_c4 := f_c4.below hb16 (by omega)
  replace f_g0 := f_g0.below hb16 (by omega)
  replace f_c5 := f_c5.below hb16 (by omega)
  replace f_c6 := f_c6.below hb16 (by omega)
  replace f_c7 := f_c7.inn
  go_wp2_with fail
  refine (toInt64S_any _ y _ hly (ry.below B16)).mono ?_
  rintro e w17 ⟨c8, rfl, f_c8, hb17⟩
  have B17 : Below w.heap.size w w17 := B16.trans (hb17.mono (by omega))
  have z17 := hb17.size
  replace f_c1 := f_c1.below hb17 (by omega)
  replace f_c2 := f_c2.below hb17 (by omega)
  replace f_s0 := f_s0.below hb17 (by omega)
  replace f_c3 := f_c3.below hb17 (by omega)
  replace f_c4 := f_c4.below hb17 (by omega)
  replace f_g0 := f_g0.below hb17 (by omega)
  replace f_c5 := f_c5.below hb17 (by omega)
  replace f_c6 := f_c6.below hb17 (by omega)
  replace f_c7 := f_c7.below hb17 (by omega)
  replace f_c8 := f_c8.inn
  go_wp2_with fail
  refine (JoinPartitions_any _ _ x y _ hlx hly x64.out y64.out f_c7.rd f_c8.rd).mono ?_
  rintro e w18 ⟨h0, rfl, f_h0, hb18⟩
  have B18 : Below w.heap.size w w18 := B17.trans (hb18.mono (by omega))
  have z18 := hb18.size
  replace f_c1 := f_c1.below hb18 (by omega)
  replace f_c2 := f_c2.below hb18 (by omega)
  replace f_s0 := f_s0.below hb18 (by omega)
  replace f_c3 := f_c3.below hb18 (by omega)
  replace f_c4 := f_c4.below hb18 (by omega)
  replace f_g0 := f_g0.below hb18 (by omega)
  replace f_c5 := f_c5.below hb18 (by omega)
  replace f_c6 := f_c6.below hb18 (by omega)
  replace f_c7 := f_c7.below hb18 (by omega)
  replace f_c8 := f_c8.below hb18 (by omega)
  replace f_h0 := f_h0.inn
  go_wp2_with fail
  refine (eqInt64S_any _ _ (joinOut x y) (joinOut x y) _ (by omega) f_h0.rd f_s0.rd).mono ?_
  rintro e w19 ⟨rfl, hb19⟩
  have B19 : Below w.heap.size w w19 := B18.trans (hb19.mono (by omega))
  have z19 := hb19.size
  replace f_c1 := f_c1.below hb19 (by omega)
  replace f_c2 := f_c2.below hb19 (by omega)
  replace f_s0 := f_s0.below hb19 (by omega)
  replace f_c3 := f_c3.below hb19 (by omega)
  replace f_c4 := f_c4.below hb19 (by omega)
  replace f_g0 := f_g0.below hb19 (by omega)
  replace f_c5 := f_c5.below hb19 (by omega)
  replace f_c6 := f_c6.below hb19 (by omega)
  replace f_c7 := f_c7.below hb19 (by omega)
  replace f_c8 := f_c8.below hb19 (by omega)
  replace f_h0 := f_h0.below hb19 (by omega)
  go_wp2_with fail
  refine (heldInt64S_any _ (1) (joinOut x y).length _ hmo (by omega) (by omega) f_g0.rd).mono ?_
  rintro e w' ⟨rfl, rfl⟩
  go_wp2_with fail
  go_ret
  exact ⟨rfl, B19⟩
theorem own : ownKnob Try.prog.godebug = none := by kernel_rfl
theorem laidOut : laidOutB Try.prog = true := by kernel_rfl
set_option maxRecDepth 100000 in
theorem lifted (os : Os) (started : os.Started) (H : Type) (enc : TypeId × Value → H) :
    ReturnsInHanded {} Try.checked os 11 .any (Rows.fnExactJoinPartitionsSpec.pre6 enc Try.prog Try.f11 Rows.fnExactJoinPartitionsRow.domain false) (Rows.fnExactJoinPartitionsSpec.post enc Try.prog Try.f11 false true false false) := by
  refine returnsInHanded_of_change (C := Try.checked) own started (by kernel_rfl) Try.func11
    (ChangeSpec.witness6 (enc := enc) (C := Try.checked) false ⟨#[], #[.slice none 0 0, .slice none 0 0], []⟩ 8 (by kernel_rfl) (by kernel_rfl) (by kernel_rfl) (by kernel_rfl)) ?_
  intro W base args ds gs before hval0 hW hcnd _
  have hval : ∀ (j : Nat) t v, Try.f11.params[j]? = some t → args[j]? = some v → Value.okWide Try.prog W .any base t v := hval0
  have hW' := hW
  obtain ⟨p, q, hA0, hV, rfl, hfz, hnd⟩ := hW
  have hA : DataW.TrodAll enc Try.prog W 0 (fun _ => true) true Try.f11.params.toList args.toList ds p := hA0
  rw [Try.params11] at hA hval
  obtain ⟨v0, vs0, d0, ds0, p0, q0, hargs, rfl, rfl, h0, r0⟩ := trodAll_cons hA
  obtain ⟨v1, vs1, d1, ds1, p1, q1, rfl, rfl, rfl, h1, r1⟩ := trodAll_cons r0
  obtain ⟨rfl, rfl, rfl⟩ := trodAll_nil r1
  obtain rfl : args = #[v0, v1] := by cases args; simp_all
  obtain ⟨rfl, rfl⟩ := trodVars_none hV
  have k0 := h0
  have lt0 : ∀ x ∈ p0, x.block < W.heap.size := by obtain ⟨m, hm⟩ := k0; exact DataW.trod_lt m _ _ _ hm
  obtain ⟨z0, w0⟩ := openI (hval 0 27 v0 rfl rfl) h0 lt0
  have k1 := h1
  have lt1 : ∀ x ∈ p1, x.block < W.heap.size := by obtain ⟨m, hm⟩ := k1; exact DataW.trod_lt m _ _ _ hm
  obtain ⟨z1, w1⟩ := openI (hval 1 27 v1 rfl rfl) h1 lt1
  clear hA0 hval0
  refine (walk v0 z0 v1 z1 W w0 w1).mono fun e W' ⟨he, bel⟩ => ?_
  subst he
  exact ⟨_, rfl, _, _, _, [], _, [], hW', trodAll_mk1 (shut_bool Try.underlying4 _), (trodAll_cons_mk (Below.trod laidOut (by kernel_rfl) (of_decide_eq_true (by kernel_rfl)) k0 bel lt0) (trodAll_cons_mk (Below.trod laidOut (by kernel_rfl) (of_decide_eq_true (by kernel_rfl)) k1 bel lt1) trodAll_mk0)), rfl, bel.frame _, fun h => by cases h⟩
theorem over : Rows.fnExactJoinPartitionsRow.holds Try.pinned (OpenSpec.ofChange Rows.fnExactJoinPartitionsSpec) :=
  OpenClaim.holds_of_wide 11 Try.f11 rfl rfl rfl rfl rfl rfl rfl ⟨rfl, rfl, rfl, rfl, rfl⟩ rfl rfl rfl rfl rfl (by kernel_rfl) Try.func11 (by kernel_rfl)
    (of_decide_eq_true (by kernel_rfl)) (by unfold Func.isWrapper; first | (rw [if_pos (by decide +kernel)]; kernel_rfl) | (rw [if_neg (by decide +kernel)]; exact ⟨rfl, rfl⟩))
    (fun os started H enc _ => lifted os started H enc)
theorem proved : Rows.FnExactJoinPartitionsSaid := over
end Go.Proofs.Ythnlnnbhkpnkgaa.fnExactJoinPartitions
